/- The ways through a message, written. No condition. An action, read. No condition. Lists that grow while they are read. No condition. -/
import Derived.Test.YtjjenpdjmcmgbaaDZd
import Derived.Test.YtjjenpdjmcmgbaaDXc
import Derived.Test.YtjjenpdjmcmgbaaDZc
namespace Go.Proofs.Ytjjenpdjmcmgbaa
open Go Ab
set_option linter.unusedSimpArgs false
set_option linter.unusedVariables false
set_option maxRecDepth 20000
/-- An action: what it does, its field, its number. -/
structure Act where
  d : Int
  f : Int
  n : Nat
  deriving DecidableEq
def acC (a : Act) : List V := [.int .i8 a.d, .int .i8 a.f, .int .u64 (a.n : Int)]
def cpV (c : List Act) : V := .isl 3 (c.map acC)
def cpsV (l : List (List Act)) : V := .isl 1 (l.map fun c => [cpV c])
structure Ru where
  rank : Int
  w : Nat → Nat
  l : List (List Act)
  ck : Nat
def ruC (r : Ru) : List V := .int .i64 r.rank :: (mC r.w ++ [cpsV r.l, .int .u64 (r.ck : Int)])
/-- A rule with its counts. -/
structure He where
  r : Ru
  p : Nat
  b : Nat
def heC (h : He) : List V := ruC h.r ++ [.int .u64 (h.p : Int), .int .u64 (h.b : Int)]
structure Ms where
  ty : Int
  id : Nat
  dd : Int
  r : Ru
  port : Nat
  up : Bool
  sw : Nat
  ports : List Nat
  edge : List Nat
  frame : List Nat
  helds : List He
  code : Nat
def poC (x : Nat) : List V := [.int .u16 (x : Int)]
def poV (l : List Nat) : V := .isl 1 (l.map poC)
def hesV (l : List He) : V := .isl 27 (l.map heC)
def msC (x : Ms) : List V := .int .i8 x.ty :: .int .u32 (x.id : Int) :: .int .i8 x.dd :: (ruC x.r ++ [.int .u16 (x.port : Int), .bool x.up, .int .u16 (x.sw : Int), poV x.ports, poV x.edge, byV x.frame, hesV x.helds, .int .u16 (x.code : Int)])
def lim : Nat := 281474976710656
def wfA (a : Act) : Prop := (-128 ≤ a.d ∧ a.d < 128) ∧ (-128 ≤ a.f ∧ a.f < 128) ∧ a.n < 18446744073709551616
def wfC (c : List Act) : Prop := c.length < lim ∧ ∀ a ∈ c, wfA a
def wfL (l : List (List Act)) : Prop := l.length < lim ∧ ∀ c ∈ l, wfC c
def wfR (r : Ru) : Prop := (-9223372036854775808 ≤ r.rank ∧ r.rank < 9223372036854775808) ∧ U64 22 r.w ∧ wfL r.l ∧ r.ck < 18446744073709551616
def wfH (h : He) : Prop := wfR h.r ∧ h.p < 18446744073709551616 ∧ h.b < 18446744073709551616
structure wfM (x : Ms) : Prop where
  ty : -128 ≤ x.ty ∧ x.ty < 128
  id : x.id < 4294967296
  dd : -128 ≤ x.dd ∧ x.dd < 128
  r : wfR x.r
  port : x.port < 65536
  sw : x.sw < 65536
  ports : x.ports.length < lim ∧ ∀ p ∈ x.ports, p < 65536
  edge : x.edge.length < lim ∧ ∀ p ∈ x.edge, p < 65536
  frame : x.frame.length < lim ∧ ∀ p ∈ x.frame, p < 256
  helds : x.helds.length < lim ∧ ∀ h ∈ x.helds, wfH h
  code : x.code < 65536
/-- Ranks that four bytes hold. -/
def rkOK (r : Ru) : Prop := -2147483648 ≤ r.rank ∧ r.rank ≤ 2147483647
def r32 (x : Int) : Nat := (x % 4294967296).toNat
def encA (a : Act) : List Nat := enc (i8N a.d) 1 ++ (enc (i8N a.f) 1 ++ enc a.n 8)
def encC (c : List Act) : List Nat := enc c.length 2 ++ c.flatMap encA
def encL (l : List (List Act)) : List Nat := enc l.length 2 ++ l.flatMap encC
def encR (r : Ru) : List Nat := enc (r32 r.rank) 4 ++ (enc r.ck 8 ++ (encM r.w ++ encL r.l))
def encH (h : He) : List Nat := encR h.r ++ (enc h.p 8 ++ enc h.b 8)
def encP (l : List Nat) : List Nat := enc l.length 2 ++ l.flatMap fun x => enc x 2
def encB (l : List Nat) : List Nat := enc l.length 2 ++ l.flatMap fun x => enc x 1
def encHs (l : List He) : List Nat := enc l.length 2 ++ l.flatMap encH
def b01 (b : Bool) : Nat := bif b then 1 else 0
theorem Cd.ne {m : Mem} {c k : Nat} {l : List Nat} {x : List V} (h : Cd m c l) {ty : Nat} (hk : m[k]? = some (.var ty x)) (ht : ty ≠ 71) : k ≠ c := by
  rintro rfl
  obtain ⟨_, h1, _⟩ := h
  rw [h1] at hk
  cases hk
  exact ht rfl
/-- The states of memory beside one call. -/
def JW (m : Mem) (c : Nat) (l e : List Nat) : Nat → Mem → Prop
  | 0, M => M = m
  | _ + 1, M => Kv c m M ∧ Cd M c (l ++ e)
def JpW (m : Mem) (c : Nat) (l e : List Nat) (v : V) (M : Mem) : Prop := v = longV ∧ Kv c m M ∧ 8192 < (l ++ e).length
theorem JW0 {m : Mem} {c : Nat} {l e : List Nat} {i : Nat} {M : Mem} (h : JW m c l e i M) (hi : i ≤ 0) : M = m := by
  obtain rfl : i = 0 := by omega
  exact h
theorem callD_j {f : FuncId} {vs : List V} {m M : Mem} {c : Nat} {l e : List Nat} (h : Snd Try.prog f vs m (WQ c m l e)) (he : enterable Try.prog f = true) (hM : M = m) : callD Try.prog f vs M (fun u m' => u = .tup [] ∧ JW m c l e (0 + 1) m') (JpW m c l e) := by
  subst hM
  exact callD_w h he (fun m1 k c => ⟨rfl, k, c⟩) (fun m1 k c => ⟨rfl, k, c⟩)
set_option maxHeartbeats 1000000 in
theorem snd73 {m : Mem} {c k : Nat} {p : V} {t : List V} {l : List Nat} {a : Act} (ha : wfA a) (hc : Cd m c l) (hk : m[k]? = some (.var 69 [.ptr c 0])) (hp : Tg c m p (acC a ++ t)) : Snd Try.prog 73 [p, .ptr k 0] m (WQ c m l (encA a)) := by
  refine Snd_of_W fol rfl rfl (by kernel_rfl) (by kernel_rfl) ?_
  have hkc := hc.ne hk (by decide)
  have hnn := hp.nn
  have hl3 : 3 ≤ (acC a ++ t).length := by simp [acC]
  obtain ⟨f0, t0⟩ := hp.fa (o := 0) (by omega)
  obtain ⟨f1, t1⟩ := hp.fa (o := 1) (by omega)
  obtain ⟨f2, t2⟩ := hp.fa (o := 2) (by omega)
  have t0 : Tg c m (pAdd 0 p) (.int .i8 a.d :: (.int .i8 a.f :: .int .u64 (a.n : Int) :: t)) := t0
  have t1 : Tg c m (pAdd 1 p) (.int .i8 a.f :: (.int .u64 (a.n : Int) :: t)) := t1
  have t2 : Tg c m (pAdd 2 p) (.int .u64 (a.n : Int) :: t) := t2
  obtain ⟨⟨a1, a2⟩, ⟨a3, a4⟩, a5⟩ := ha
  simp -implicitDefEqProofs only [sims.1, tick_on]
  refine w_callsP (JW m c (l) (enc (i8N a.d) 1)) (JpW m c (l) (enc (i8N a.d) 1)) [4] [.ptr c 0, p, p, pAdd 0 p, .tup []] (by kernel_rfl) rfl ?_ ?_ ?_
  · refine okN_early 0 rfl rfl rfl rfl (fun i M' hi h => by
      show Option.map (Res.val · M') (loadV Try.prog M' 69 (.ptr k 0)) = _
      rw [JW0 h hi, ld69, loadK_ptr, hk]
      rfl) ?_
    refine okN_pure rfl rfl rfl (fun _ _ _ => rfl) ?_
    refine okN_pure rfl rfl rfl (fun _ M' _ => by
      show (bif nonnil p then some (Res.val p M') else none) = _
      rw [hnn]
      rfl) ?_
    refine okN_pure rfl rfl rfl (fun _ M' _ => by
      show Option.map (Res.val · M') (faddrV Try.prog 123 0 p) = _
      rw [fa123_0, f0]
      rfl) ?_
    refine okN_call rfl (show calleeV (evO _) _ = some (52, [.ptr c 0, pAdd 0 p, .int .i64 1]) by kernel_rfl) rfl rfl (fun m' h => callD_j (snd52 hc t0 a1 a2) en52 h) ?_
    exact okN_nil
  · rintro m1 ⟨k1, c1⟩
    have hk1 := k1.2 _ _ _ hkc hk
    simp -implicitDefEqProofs only [sims.1, tick_on, putAll]
    refine w_callsP (JW m1 c (l ++ enc (i8N a.d) 1) (enc (i8N a.f) 1)) (JpW m1 c (l ++ enc (i8N a.d) 1) (enc (i8N a.f) 1)) [4] [.ptr c 0, p, p, pAdd 1 p, .tup []] (by kernel_rfl) rfl ?_ ?_ ?_
    · refine okN_early 0 rfl rfl rfl rfl (fun i M' hi h => by
        show Option.map (Res.val · M') (loadV Try.prog M' 69 (.ptr k 0)) = _
        rw [JW0 h hi, ld69, loadK_ptr, hk1]
        rfl) ?_
      refine okN_pure rfl rfl rfl (fun _ _ _ => rfl) ?_
      refine okN_pure rfl rfl rfl (fun _ M' _ => by
        show (bif nonnil p then some (Res.val p M') else none) = _
        rw [hnn]
        rfl) ?_
      refine okN_pure rfl rfl rfl (fun _ M' _ => by
        show Option.map (Res.val · M') (faddrV Try.prog 123 1 p) = _
        rw [fa123_1, f1]
        rfl) ?_
      refine okN_call rfl (show calleeV (evO _) _ = some (52, [.ptr c 0, pAdd 1 p, .int .i64 1]) by kernel_rfl) rfl rfl (fun m' h => callD_j (snd52 c1 (t1.keep k1) a3 a4) en52 h) ?_
      exact okN_nil
    · rintro m2 ⟨k2, c2⟩
      have hk2 := k2.2 _ _ _ hkc hk1
      simp -implicitDefEqProofs only [sims.1, tick_on, putAll]
      refine w_callsP (JW m2 c (l ++ enc (i8N a.d) 1 ++ enc (i8N a.f) 1) (enc a.n 8)) (JpW m2 c (l ++ enc (i8N a.d) 1 ++ enc (i8N a.f) 1) (enc a.n 8)) [4] [.ptr c 0, p, p, pAdd 2 p, .tup []] (by kernel_rfl) rfl ?_ ?_ ?_
      · refine okN_early 0 rfl rfl rfl rfl (fun i M' hi h => by
          show Option.map (Res.val · M') (loadV Try.prog M' 69 (.ptr k 0)) = _
          rw [JW0 h hi, ld69, loadK_ptr, hk2]
          rfl) ?_
        refine okN_pure rfl rfl rfl (fun _ _ _ => rfl) ?_
        refine okN_pure rfl rfl rfl (fun _ M' _ => by
          show (bif nonnil p then some (Res.val p M') else none) = _
          rw [hnn]
          rfl) ?_
        refine okN_pure rfl rfl rfl (fun _ M' _ => by
          show Option.map (Res.val · M') (faddrV Try.prog 123 2 p) = _
          rw [fa123_2, f2]
          rfl) ?_
        refine okN_call rfl (show calleeV (evO _) _ = some (31, [.ptr c 0, pAdd 2 p, .int .i64 8]) by kernel_rfl) rfl rfl (fun m' h => callD_j (snd31 (n := 8) c2 (t2.keep (k1.trans k2)) (by omega) (by omega)) en31 h) ?_
        exact okN_nil
      · rintro m3 ⟨k3, c3⟩
        simp -implicitDefEqProofs only [sims.1, tick_on, putAll]
        refine .inl ⟨m3, rfl, k1.trans (k2.trans k3), ?_⟩
        simpa only [encA, List.append_assoc] using c3
      · rintro _ M ⟨rfl, kk, cc⟩
        refine .inr ⟨M, rfl, k1.trans (k2.trans kk), ?_⟩
        simp only [List.length_append, encA] at cc ⊢
        omega
    · rintro _ M ⟨rfl, kk, cc⟩
      refine .inr ⟨M, rfl, k1.trans kk, ?_⟩
      simp only [List.length_append, encA] at cc ⊢
      omega
  · rintro _ M ⟨rfl, kk, cc⟩
    refine .inr ⟨M, rfl, kk, ?_⟩
    simp only [List.length_append, encA] at cc ⊢
    omega
theorem encA_pos (a : Act) : 1 ≤ (encA a).length := by simp only [encA, List.length_append, enc_len]; omega
theorem snd71 {m : Mem} {c k : Nat} {p : V} {t : List V} {l : List Nat} {x : List Act} (hx : wfC x) (hc : Cd m c l) (hk : m[k]? = some (.var 69 [.ptr c 0])) (hp : Tg c m p (cpV x :: t)) : Snd Try.prog 71 [p, .ptr k 0] m (WQ c m l (encC x)) := by
  refine Snd_of_W fol rfl rfl (by kernel_rfl) (by kernel_rfl) ?_
  have hkc := hc.ne hk (by decide)
  simp -implicitDefEqProofs only [sims.1, fx.1, keeps.1, tick_on, calleeK, Nat.reduceEqDiff, hk]
  refine callD_w (snd72 x acC encA hc hp en73 (fun m' l' a ha k1 c1 => snd73 (t := []) (hx.2 a ha) c1 (k1.2 _ _ _ hkc hk) (.inl (by rw [List.append_nil]))) (fun a _ => encA_pos a) hx.1) en72 ?_ ?_
  · intro m1 k1 c1
    simp -implicitDefEqProofs only [sims.1, tick_on]
    exact .inl ⟨m1, rfl, k1, c1⟩
  · intro m1 k1 c1
    exact .inr ⟨m1, rfl, k1, c1⟩
theorem encC_pos (x : List Act) : 1 ≤ (encC x).length := by simp only [encC, List.length_append, enc_len]; omega
theorem snd70c {m : Mem} {c k : Nat} {p : V} {t : List V} {l : List Nat} {x : List (List Act)} (hx : wfL x) (hc : Cd m c l) (hk : m[k]? = some (.var 69 [.ptr c 0])) (hp : Tg c m p (cpsV x :: t)) : Snd Try.prog 70 [.ptr c 0, p, .fn 71 [] [.ptr k 0]] m (WQ c m l (encL x)) := by
  have hkc := hc.ne hk (by decide)
  exact snd70 x (fun c => [cpV c]) encC hc hp en71 (fun m' l' a ha k1 c1 => snd71 (t := []) (hx.2 a ha) c1 (k1.2 _ _ _ hkc hk) (.inl rfl)) (fun a _ => encC_pos a) hx.1
theorem r32w (x : Int) (h1 : -2147483648 ≤ x) (h2 : x ≤ 2147483647) : IntKind.u32.wrap (IntKind.i32.wrap x) = (r32 x : Int) ∧ IntKind.i64.wrap (IntKind.i32.wrap (r32 x : Int)) = x := by
  unfold r32
  simp [IntKind.wrap, IntKind.bits, IntKind.signed]
  omega
set_option maxHeartbeats 2000000 in
theorem snd53 {m : Mem} {c : Nat} {p : V} {t : List V} {l : List Nat} {r : Ru} (hr : wfR r) (hrk : rkOK r) (hc : Cd m c l) (hp : Tg c m p (ruC r ++ t)) : Snd Try.prog 53 [.ptr c 0, p] m (WQ c m l (encR r)) := by
  refine Snd_of_W fol rfl rfl (by kernel_rfl) (by kernel_rfl) ?_
  have hl : 25 ≤ (ruC r ++ t).length := by simp [ruC, mC, cl]; omega
  have nb : newV 69 m (.ptr c 0) = some (.ptr m.length 0, m ++ [.var 69 [.ptr c 0]]) := newV_one rfl
  have hnn := hp.nn
  have hnn' := hnn
  simp only [nonnil] at hnn'
  obtain ⟨f0, t0⟩ := hp.fa (o := 0) (by omega)
  obtain ⟨f1, t1⟩ := hp.fa (o := 1) (by omega)
  obtain ⟨f2, t2⟩ := hp.fa (o := 23) (by omega)
  obtain ⟨f3, t3⟩ := hp.fa (o := 24) (by omega)
  have f0' := f0
  simp only [faddrK, Nat.add_zero] at f0'
  have t0 : Tg c m (pAdd 0 p) (.int .i64 r.rank :: ((mC r.w ++ [cpsV r.l, .int .u64 (r.ck : Int)]) ++ t)) := t0
  have t1 : Tg c m (pAdd 1 p) (mC r.w ++ (cpsV r.l :: .int .u64 (r.ck : Int) :: t)) := t1
  have t2 : Tg c m (pAdd 23 p) (cpsV r.l :: (.int .u64 (r.ck : Int) :: t)) := t2
  have t3 : Tg c m (pAdd 24 p) (.int .u64 (r.ck : Int) :: t) := t3
  obtain ⟨w1, w2⟩ := r32w r.rank hrk.1 hrk.2
  have hlt := hc.lt
  have hs : ∀ (b b' : B), (m ++ [b, b'])[m.length]? = some b := fun b b' => by simp
  have hs2 : ∀ (b b' : B), (m ++ [b, b'])[m.length + 1]? = some b' := fun b b' => by simp
  have hap : ∀ (b b' : B), m ++ [b] ++ [b'] = m ++ [b, b'] := fun b b' => by simp
  have hset : ∀ b b' b'' : B, (m ++ [b, b']).set (m.length + 1) b'' = m ++ [b, b''] := fun b b' b'' => by simp
  have ld0 : ∀ ex, loadK false 1 (m ++ ex) (pAdd 0 p) = some (.int .i64 r.rank) := fun ex => (t0.keep (Kv.app hc ex)).load1
  simp -implicitDefEqProofs only [sims.1, fx.1, keeps.1, tick_on, calleeK, faddrK, nonnil, Nat.reduceEqDiff, Nat.reduceLT, nb, hnn', f0', ld0, w1, hap, List.length_append, hs, hs2, hset]
  refine callD_w (snd22 (x := r32 r.rank) (hc.app _) (Tg.var (q := m.length + 1) (hs2 _ _) (by omega)) (by unfold r32; omega)) en22 ?_ ?_
  · intro m1 k1 c1
    have hk := (Kv.app hc _).trans k1
    have q1 := k1.2 _ _ _ (by omega) (hs _ _)
    have q2 := k1.2 _ _ _ (by omega) (hs2 _ _)
    have st := (t0.keep hk).still
    simp -implicitDefEqProofs only [sims.1, fx.1, keeps.1, tick_on, faddrK, nonnil, Nat.reduceEqDiff, q2, w2, hnn', f0', st]
    refine w_callsP (JW m1 c (l ++ enc (r32 r.rank) 4) (enc r.ck 8)) (JpW m1 c (l ++ enc (r32 r.rank) 4) (enc r.ck 8)) [4] [.ptr c 0, p, p, pAdd 24 p, .tup []] (by kernel_rfl) rfl ?_ ?_ ?_
    · refine okN_early 0 rfl rfl rfl rfl (fun i M' hi h => by
        show Option.map (Res.val · M') (loadV Try.prog M' 69 (.ptr m.length 0)) = _
        rw [JW0 h hi, ld69, loadK_ptr, q1]
        rfl) ?_
      refine okN_pure rfl rfl rfl (fun _ _ _ => rfl) ?_
      refine okN_pure rfl rfl rfl (fun _ M' _ => by
        show (bif nonnil p then some (Res.val p M') else none) = _
        rw [hnn]
        rfl) ?_
      refine okN_pure rfl rfl rfl (fun _ M' _ => by
        show Option.map (Res.val · M') (faddrV Try.prog 31 3 p) = _
        rw [fa31_3, f3]
        rfl) ?_
      refine okN_call rfl (show calleeV (evO _) _ = some (31, [.ptr c 0, pAdd 24 p, .int .i64 8]) by kernel_rfl) rfl rfl (fun m' h => callD_j (snd31 (n := 8) c1 (t3.keep hk) (by omega) (by omega)) en31 h) ?_
      exact okN_nil
    · rintro m2 ⟨k2, c2⟩
      have q12 := k2.2 _ _ _ (by omega) q1
      have hk2 := hk.trans k2
      simp -implicitDefEqProofs only [sims.1, tick_on, putAll]
      refine w_callsP (JW m2 c (l ++ enc (r32 r.rank) 4 ++ enc r.ck 8) (encM r.w)) (JpW m2 c (l ++ enc (r32 r.rank) 4 ++ enc r.ck 8) (encM r.w)) [4] [.ptr c 0, p, p, pAdd 1 p, .tup []] (by kernel_rfl) rfl ?_ ?_ ?_
      · refine okN_early 0 rfl rfl rfl rfl (fun i M' hi h => by
          show Option.map (Res.val · M') (loadV Try.prog M' 69 (.ptr m.length 0)) = _
          rw [JW0 h hi, ld69, loadK_ptr, q12]
          rfl) ?_
        refine okN_pure rfl rfl rfl (fun _ _ _ => rfl) ?_
        refine okN_pure rfl rfl rfl (fun _ M' _ => by
          show (bif nonnil p then some (Res.val p M') else none) = _
          rw [hnn]
          rfl) ?_
        refine okN_pure rfl rfl rfl (fun _ M' _ => by
          show Option.map (Res.val · M') (faddrV Try.prog 31 1 p) = _
          rw [fa31_1, f1]
          rfl) ?_
        refine okN_call rfl (show calleeV (evO _) _ = some (69, [.ptr c 0, pAdd 1 p]) by kernel_rfl) rfl rfl (fun m' h => callD_j (snd69 hr.2.1 c2 (t1.keep hk2)) en69 h) ?_
        exact okN_nil
      · rintro m3 ⟨k3, c3⟩
        have q13 := k3.2 _ _ _ (by omega) q12
        have hk3 := hk2.trans k3
        simp -implicitDefEqProofs only [sims.1, tick_on, putAll]
        refine w_callsP (JW m3 c (l ++ enc (r32 r.rank) 4 ++ enc r.ck 8 ++ encM r.w) (encL r.l)) (JpW m3 c (l ++ enc (r32 r.rank) 4 ++ enc r.ck 8 ++ encM r.w) (encL r.l)) [5] [.ptr c 0, p, p, pAdd 23 p, .fn 71 [] [.ptr m.length 0], .tup []] (by kernel_rfl) rfl ?_ ?_ ?_
        · refine okN_early 0 rfl rfl rfl rfl (fun i M' hi h => by
            show Option.map (Res.val · M') (loadV Try.prog M' 69 (.ptr m.length 0)) = _
            rw [JW0 h hi, ld69, loadK_ptr, q13]
            rfl) ?_
          refine okN_pure rfl rfl rfl (fun _ _ _ => rfl) ?_
          refine okN_pure rfl rfl rfl (fun _ M' _ => by
            show (bif nonnil p then some (Res.val p M') else none) = _
            rw [hnn]
            rfl) ?_
          refine okN_pure rfl rfl rfl (fun _ M' _ => by
            show Option.map (Res.val · M') (faddrV Try.prog 31 2 p) = _
            rw [fa31_2, f2]
            rfl) ?_
          refine okN_pure rfl rfl rfl (fun _ _ _ => rfl) ?_
          refine okN_call rfl (show calleeV (evO _) _ = some (70, [.ptr c 0, pAdd 23 p, .fn 71 [] [.ptr m.length 0]]) by kernel_rfl) rfl rfl (fun m' h => callD_j (snd70c hr.2.2.1 c3 q13 (t2.keep hk3)) en70 h) ?_
          exact okN_nil
        · rintro m4 ⟨k4, c4⟩
          simp -implicitDefEqProofs only [sims.1, tick_on, putAll]
          refine .inl ⟨m4, rfl, hk3.trans k4, ?_⟩
          simpa only [encR, List.append_assoc] using c4
        · rintro _ M ⟨rfl, kk, cc⟩
          refine .inr ⟨M, rfl, hk3.trans kk, ?_⟩
          simp only [List.length_append, encR] at cc ⊢
          omega
      · rintro _ M ⟨rfl, kk, cc⟩
        refine .inr ⟨M, rfl, hk2.trans kk, ?_⟩
        simp only [List.length_append, encR] at cc ⊢
        omega
    · rintro _ M ⟨rfl, kk, cc⟩
      refine .inr ⟨M, rfl, hk.trans kk, ?_⟩
      simp only [List.length_append, encR] at cc ⊢
      omega
  · intro m1 k1 c1
    refine .inr ⟨m1, rfl, (Kv.app hc _).trans k1, ?_⟩
    simp only [List.length_append, encR] at c1 ⊢
    omega
theorem encR_pos (r : Ru) : 1 ≤ (encR r).length := by simp only [encR, List.length_append, enc_len]; omega
theorem encH_pos (h : He) : 1 ≤ (encH h).length := by have := encR_pos h.r; simp only [encH, List.length_append, enc_len]; omega
set_option maxHeartbeats 1000000 in
theorem snd56 {m : Mem} {c k : Nat} {p : V} {t : List V} {l : List Nat} {h : He} (hh : wfH h) (hrk : rkOK h.r) (hc : Cd m c l) (hk : m[k]? = some (.var 69 [.ptr c 0])) (hp : Tg c m p (heC h ++ t)) : Snd Try.prog 56 [p, .ptr k 0] m (WQ c m l (encH h)) := by
  refine Snd_of_W fol rfl rfl (by kernel_rfl) (by kernel_rfl) ?_
  have hkc := hc.ne hk (by decide)
  have hnn := hp.nn
  have hl : 27 ≤ (heC h ++ t).length := by simp [heC, ruC, mC, cl]; omega
  obtain ⟨f0, t0⟩ := hp.fa (o := 0) (by omega)
  obtain ⟨f1, t1⟩ := hp.fa (o := 25) (by omega)
  obtain ⟨g0, u0⟩ := t1.fa (o := 0) (by rw [List.length_drop]; omega)
  obtain ⟨g1, u1⟩ := t1.fa (o := 1) (by rw [List.length_drop]; omega)
  have t0 : Tg c m (pAdd 0 p) (ruC h.r ++ (.int .u64 (h.p : Int) :: .int .u64 (h.b : Int) :: t)) := t0
  have u0 : Tg c m (pAdd 0 (pAdd 25 p)) (.int .u64 (h.p : Int) :: (.int .u64 (h.b : Int) :: t)) := u0
  have u1 : Tg c m (pAdd 1 (pAdd 25 p)) (.int .u64 (h.b : Int) :: t) := u1
  obtain ⟨a1, a2, a3⟩ := hh
  simp -implicitDefEqProofs only [sims.1, tick_on]
  refine w_callsP (JW m c (l) (encR h.r)) (JpW m c (l) (encR h.r)) [4] [.ptr c 0, p, p, pAdd 0 p, .tup []] (by kernel_rfl) rfl ?_ ?_ ?_
  · refine okN_early 0 rfl rfl rfl rfl (fun i M' hi h => by
      show Option.map (Res.val · M') (loadV Try.prog M' 69 (.ptr k 0)) = _
      rw [JW0 h hi, ld69, loadK_ptr, hk]
      rfl) ?_
    refine okN_pure rfl rfl rfl (fun _ _ _ => rfl) ?_
    refine okN_pure rfl rfl rfl (fun _ M' _ => by
      show (bif nonnil p then some (Res.val p M') else none) = _
      rw [hnn]
      rfl) ?_
    refine okN_pure rfl rfl rfl (fun _ M' _ => by
      show Option.map (Res.val · M') (faddrV Try.prog 59 0 p) = _
      rw [fa59_0, f0]
      rfl) ?_
    refine okN_call rfl (show calleeV (evO _) _ = some (53, [.ptr c 0, pAdd 0 p]) by kernel_rfl) rfl rfl (fun m' h => callD_j (snd53 a1 hrk hc t0) en53 h) ?_
    exact okN_nil
  · rintro m1 ⟨k1, c1⟩
    have hk1 := k1.2 _ _ _ hkc hk
    simp -implicitDefEqProofs only [sims.1, tick_on, putAll]
    refine w_callsP (JW m1 c (l ++ encR h.r) (enc h.p 8)) (JpW m1 c (l ++ encR h.r) (enc h.p 8)) [5] [.ptr c 0, p, p, pAdd 25 p, pAdd 0 (pAdd 25 p), .tup []] (by kernel_rfl) rfl ?_ ?_ ?_
    · refine okN_early 0 rfl rfl rfl rfl (fun i M' hi h => by
        show Option.map (Res.val · M') (loadV Try.prog M' 69 (.ptr k 0)) = _
        rw [JW0 h hi, ld69, loadK_ptr, hk1]
        rfl) ?_
      refine okN_pure rfl rfl rfl (fun _ _ _ => rfl) ?_
      refine okN_pure rfl rfl rfl (fun _ M' _ => by
        show (bif nonnil p then some (Res.val p M') else none) = _
        rw [hnn]
        rfl) ?_
      refine okN_pure rfl rfl rfl (fun _ M' _ => by
        show Option.map (Res.val · M') (faddrV Try.prog 59 1 p) = _
        rw [fa59_1, f1]
        rfl) ?_
      refine okN_pure rfl rfl rfl (fun _ M' _ => by
        show Option.map (Res.val · M') (faddrV Try.prog 57 0 (pAdd 25 p)) = _
        rw [fa57_0, g0]
        rfl) ?_
      refine okN_call rfl (show calleeV (evO _) _ = some (31, [.ptr c 0, pAdd 0 (pAdd 25 p), .int .i64 8]) by kernel_rfl) rfl rfl (fun m' h => callD_j (snd31 (n := 8) c1 (u0.keep k1) (by omega) (by omega)) en31 h) ?_
      exact okN_nil
    · rintro m2 ⟨k2, c2⟩
      have hk2 := k2.2 _ _ _ hkc hk1
      simp -implicitDefEqProofs only [sims.1, tick_on, putAll]
      refine w_callsP (JW m2 c (l ++ encR h.r ++ enc h.p 8) (enc h.b 8)) (JpW m2 c (l ++ encR h.r ++ enc h.p 8) (enc h.b 8)) [5] [.ptr c 0, p, p, pAdd 25 p, pAdd 1 (pAdd 25 p), .tup []] (by kernel_rfl) rfl ?_ ?_ ?_
      · refine okN_early 0 rfl rfl rfl rfl (fun i M' hi h => by
          show Option.map (Res.val · M') (loadV Try.prog M' 69 (.ptr k 0)) = _
          rw [JW0 h hi, ld69, loadK_ptr, hk2]
          rfl) ?_
        refine okN_pure rfl rfl rfl (fun _ _ _ => rfl) ?_
        refine okN_pure rfl rfl rfl (fun _ M' _ => by
          show (bif nonnil p then some (Res.val p M') else none) = _
          rw [hnn]
          rfl) ?_
        refine okN_pure rfl rfl rfl (fun _ M' _ => by
          show Option.map (Res.val · M') (faddrV Try.prog 59 1 p) = _
          rw [fa59_1, f1]
          rfl) ?_
        refine okN_pure rfl rfl rfl (fun _ M' _ => by
          show Option.map (Res.val · M') (faddrV Try.prog 57 1 (pAdd 25 p)) = _
          rw [fa57_1, g1]
          rfl) ?_
        refine okN_call rfl (show calleeV (evO _) _ = some (31, [.ptr c 0, pAdd 1 (pAdd 25 p), .int .i64 8]) by kernel_rfl) rfl rfl (fun m' h => callD_j (snd31 (n := 8) c2 (u1.keep (k1.trans k2)) (by omega) (by omega)) en31 h) ?_
        exact okN_nil
      · rintro m3 ⟨k3, c3⟩
        simp -implicitDefEqProofs only [sims.1, tick_on, putAll]
        refine .inl ⟨m3, rfl, k1.trans (k2.trans k3), ?_⟩
        simpa only [encH, List.append_assoc] using c3
      · rintro _ M ⟨rfl, kk, cc⟩
        refine .inr ⟨M, rfl, k1.trans (k2.trans kk), ?_⟩
        simp only [List.length_append, encH] at cc ⊢
        omega
    · rintro _ M ⟨rfl, kk, cc⟩
      refine .inr ⟨M, rfl, k1.trans kk, ?_⟩
      simp only [List.length_append, encH] at cc ⊢
      omega
  · rintro _ M ⟨rfl, kk, cc⟩
    refine .inr ⟨M, rfl, kk, ?_⟩
    simp only [List.length_append, encH] at cc ⊢
    omega
end Go.Proofs.Ytjjenpdjmcmgbaa
namespace Go.Proofs.Ytjjenpdjmcmgbaa
open Go Ab
set_option linter.unusedSimpArgs false
set_option linter.unusedVariables false
set_option maxRecDepth 20000
def GR (c q ty : Nat) (l : List V) (m : Mem) (p : Option (List V × List Nat)) (M : Mem) : Prop := ∃ l' rest', p = some (l', rest') ∧ K2 c q m M ∧ Cr M c rest' ∧ M[q]? = some (.var ty l')
def HR (c q ty : Nat) (l : List V) (m : Mem) (p : Option (List V × List Nat)) (v : V) (M : Mem) : Prop := v = wrongV ∧ p = none ∧ K2 c q m M ∧ ∃ l', M[q]? = some (.var ty l') ∧ l'.length = l.length
def JR (m : Mem) (G : Mem → Prop) : Nat → Mem → Prop
  | 0, M => M = m
  | _ + 1, M => G M
theorem JR0 {m : Mem} {G : Mem → Prop} {i : Nat} {M : Mem} (h : JR m G i M) (hi : i ≤ 0) : M = m := by
  obtain rfl : i = 0 := by omega
  exact h
theorem callD_jr {f : FuncId} {vs : List V} {m M : Mem} {c q ty : Nat} {l : List V} {p : Option (List V × List Nat)} (h : Snd Try.prog f vs m (RQ c q ty l m p)) (he : enterable Try.prog f = true) (hM : M = m) :
    callD Try.prog f vs M (fun u m' => u = .tup [] ∧ GR c q ty l m p m') (HR c q ty l m p) := by
  subst hM
  exact callD_r h he (fun l' rest' m1 h1 h2 h3 h4 => ⟨rfl, l', rest', h1, h2, h3, h4⟩) (fun l' m1 h1 h2 h3 h4 => ⟨rfl, h1, h2, l', h3, h4⟩)
theorem snd31q {m : Mem} {c q ty o n : Nat} {l : List V} {rest : List Nat} {a : Int} (hc : Cr m c rest) (hq : m[q]? = some (.var ty l)) (hqc : q ≠ c) (ho : l[o]? = some (.int .u64 a)) (hb : ∀ b ∈ rest, b < 256) (hL : rest.length < 281474976710656) (h0 : 0 < n) (hn : n ≤ 8) :
    Snd Try.prog 31 [.ptr c 0, .ptr q o, .int .i64 (n : Int)] m (RQ c q ty l m (cellR l o ((rdN n rest).map fun p => (.int .u64 (p.1 : Int), p.2)))) :=
  (snd31r hc hq hqc ho hb hL h0 hn).mono fun _ => RN_RQ
/-- Bytes as they come. -/
def Byt (l : List Nat) : Prop := (∀ b ∈ l, b < 256) ∧ l.length < 281474976710656
theorem Byt.drop {l : List Nat} (h : Byt l) (n : Nat) : Byt (l.drop n) := ⟨fun b hb => h.1 b (List.mem_of_mem_drop hb), by have := h.2; simp; omega⟩
theorem rdN_byt {n : Nat} {rest : List Nat} {p : Nat × List Nat} (h : Byt rest) (e : rdN n rest = some p) : Byt p.2 := by
  unfold rdN at e
  split at e
  · cases e; exact h.drop n
  · cases e
/-- An action's parser. -/
def rdAc (rest : List Nat) : Option (Act × List Nat) := (rdN 1 rest).bind fun a => (rdN 1 a.2).bind fun b => (rdN 8 b.2).map fun n => (⟨IntKind.i8.wrap (a.1 : Int), IntKind.i8.wrap (b.1 : Int), n.1⟩, n.2)
def acz : List V := [.int .i8 0, .int .i8 0, .int .u64 0]
set_option maxHeartbeats 1000000 in
theorem snd73r {m : Mem} {c q k : Nat} {rest : List Nat} (hc : Cr m c rest) (hB : Byt rest) (hk : m[k]? = some (.var 69 [.ptr c 0])) (hq : m[q]? = some (.var 123 acz)) (hqc : q ≠ c) (hkc : k ≠ c) (hkq : k ≠ q) :
    Snd Try.prog 73 [.ptr q 0, .ptr k 0] m (RQ c q 123 acz m ((rdAc rest).map fun p => (acC p.1, p.2))) := by
  refine Snd_of_W fol rfl rfl (by kernel_rfl) (by kernel_rfl) ?_
  have hnn : ∀ k o, nonnil (.ptr k o) = true := fun _ _ => rfl
  simp -implicitDefEqProofs only [sims.1, tick_on]
  refine w_callsP (JR m (GR c q 123 acz m (cellR acz 0 ((rdN 1 rest).map fun p => (.int .i8 (IntKind.i8.wrap (p.1 : Int)), p.2))))) (HR c q 123 acz m (cellR acz 0 ((rdN 1 rest).map fun p => (.int .i8 (IntKind.i8.wrap (p.1 : Int)), p.2)))) [4] [.ptr c 0, .ptr q 0, .ptr q 0, .ptr q 0, .tup []] (by kernel_rfl) rfl ?_ ?_ ?_
  · refine okN_early 0 rfl rfl rfl rfl (fun i M' hi h => by
      show Option.map (Res.val · M') (loadV Try.prog M' 69 (.ptr k 0)) = _
      rw [JR0 h hi, ld69, loadK_ptr, hk]
      rfl) ?_
    refine okN_pure rfl rfl rfl (fun _ _ _ => rfl) ?_
    refine okN_pure rfl rfl rfl (fun _ M' _ => rfl) ?_
    refine okN_pure rfl rfl rfl (fun _ M' _ => by
      show Option.map (Res.val · M') (faddrV Try.prog 123 0 (.ptr q 0)) = _
      rw [fa123_0]
      rfl) ?_
    refine okN_call rfl (show calleeV (evO _) _ = some (52, [.ptr c 0, .ptr q 0, .int .i64 1]) by kernel_rfl) rfl rfl (fun m' h => callD_jr (snd52r (o := 0) hc hq hqc rfl hB.1 hB.2) en52 h) ?_
    exact okN_nil
  · rintro m1 ⟨l', r', e1, k1, c1, q1⟩
    cases d1 : rdN 1 rest with
    | none => rw [d1] at e1; cases e1
    | some a =>
    rw [d1] at e1
    cases e1
    have hk1 := k1.2 _ _ hkc hkq hk
    have B1 : Byt a.2 := rdN_byt hB d1
    have q1 : m1[q]? = some (.var 123 [.int .i8 (IntKind.i8.wrap (a.1 : Int)), .int .i8 0, .int .u64 0]) := q1
    have c1 : Cr m1 c a.2 := c1
    simp only [putAll]
    simp -implicitDefEqProofs only [sims.1, tick_on]
    refine w_callsP (JR m1 (GR c q 123 [.int .i8 (IntKind.i8.wrap (a.1 : Int)), .int .i8 0, .int .u64 0] m1 (cellR [.int .i8 (IntKind.i8.wrap (a.1 : Int)), .int .i8 0, .int .u64 0] 1 ((rdN 1 a.2).map fun p => (.int .i8 (IntKind.i8.wrap (p.1 : Int)), p.2))))) (HR c q 123 [.int .i8 (IntKind.i8.wrap (a.1 : Int)), .int .i8 0, .int .u64 0] m1 (cellR [.int .i8 (IntKind.i8.wrap (a.1 : Int)), .int .i8 0, .int .u64 0] 1 ((rdN 1 a.2).map fun p => (.int .i8 (IntKind.i8.wrap (p.1 : Int)), p.2)))) [4] [.ptr c 0, .ptr q 0, .ptr q 0, .ptr q 1, .tup []] (by kernel_rfl) rfl ?_ ?_ ?_
    · refine okN_early 0 rfl rfl rfl rfl (fun i M' hi h => by
        show Option.map (Res.val · M') (loadV Try.prog M' 69 (.ptr k 0)) = _
        rw [JR0 h hi, ld69, loadK_ptr, hk1]
        rfl) ?_
      refine okN_pure rfl rfl rfl (fun _ _ _ => rfl) ?_
      refine okN_pure rfl rfl rfl (fun _ M' _ => rfl) ?_
      refine okN_pure rfl rfl rfl (fun _ M' _ => by
        show Option.map (Res.val · M') (faddrV Try.prog 123 1 (.ptr q 0)) = _
        rw [fa123_1]
        rfl) ?_
      refine okN_call rfl (show calleeV (evO _) _ = some (52, [.ptr c 0, .ptr q 1, .int .i64 1]) by kernel_rfl) rfl rfl (fun m' h => callD_jr (snd52r (o := 1) c1 q1 hqc rfl B1.1 B1.2) en52 h) ?_
      exact okN_nil
    · rintro m2 ⟨l', r', e2, k2, c2, q2⟩
      cases d2 : rdN 1 a.2 with
      | none => rw [d2] at e2; cases e2
      | some b =>
      rw [d2] at e2
      cases e2
      have hk2 := k2.2 _ _ hkc hkq hk1
      have B2 : Byt b.2 := rdN_byt B1 d2
      have q2 : m2[q]? = some (.var 123 [.int .i8 (IntKind.i8.wrap (a.1 : Int)), .int .i8 (IntKind.i8.wrap (b.1 : Int)), .int .u64 0]) := q2
      have c2 : Cr m2 c b.2 := c2
      simp only [putAll]
      simp -implicitDefEqProofs only [sims.1, tick_on]
      refine w_callsP (JR m2 (GR c q 123 [.int .i8 (IntKind.i8.wrap (a.1 : Int)), .int .i8 (IntKind.i8.wrap (b.1 : Int)), .int .u64 0] m2 (cellR [.int .i8 (IntKind.i8.wrap (a.1 : Int)), .int .i8 (IntKind.i8.wrap (b.1 : Int)), .int .u64 0] 2 ((rdN 8 b.2).map fun p => (.int .u64 (p.1 : Int), p.2))))) (HR c q 123 [.int .i8 (IntKind.i8.wrap (a.1 : Int)), .int .i8 (IntKind.i8.wrap (b.1 : Int)), .int .u64 0] m2 (cellR [.int .i8 (IntKind.i8.wrap (a.1 : Int)), .int .i8 (IntKind.i8.wrap (b.1 : Int)), .int .u64 0] 2 ((rdN 8 b.2).map fun p => (.int .u64 (p.1 : Int), p.2)))) [4] [.ptr c 0, .ptr q 0, .ptr q 0, .ptr q 2, .tup []] (by kernel_rfl) rfl ?_ ?_ ?_
      · refine okN_early 0 rfl rfl rfl rfl (fun i M' hi h => by
          show Option.map (Res.val · M') (loadV Try.prog M' 69 (.ptr k 0)) = _
          rw [JR0 h hi, ld69, loadK_ptr, hk2]
          rfl) ?_
        refine okN_pure rfl rfl rfl (fun _ _ _ => rfl) ?_
        refine okN_pure rfl rfl rfl (fun _ M' _ => rfl) ?_
        refine okN_pure rfl rfl rfl (fun _ M' _ => by
          show Option.map (Res.val · M') (faddrV Try.prog 123 2 (.ptr q 0)) = _
          rw [fa123_2]
          rfl) ?_
        refine okN_call rfl (show calleeV (evO _) _ = some (31, [.ptr c 0, .ptr q 2, .int .i64 8]) by kernel_rfl) rfl rfl (fun m' h => callD_jr (snd31q (n := 8) (o := 2) (a := 0) c2 q2 hqc rfl B2.1 B2.2 (by omega) (by omega)) en31 h) ?_
        exact okN_nil
      · rintro m3 ⟨l', r', e3, k3, c3, q3⟩
        cases d3 : rdN 8 b.2 with
        | none => rw [d3] at e3; cases e3
        | some n =>
        rw [d3] at e3
        cases e3
        simp -implicitDefEqProofs only [sims.1, tick_on, putAll]
        have e : rdAc rest = some (⟨IntKind.i8.wrap (a.1 : Int), IntKind.i8.wrap (b.1 : Int), n.1⟩, n.2) := by simp only [rdAc, d1, d2, d3, Option.bind_some, Option.map_some]
        rw [e]
        exact ⟨m3, rfl, k1.trans (k2.trans k3), c3, q3⟩
      · rintro _ M ⟨rfl, e, kk, l', q', hl⟩
        cases d : rdN 8 b.2 with
        | some a => rw [d] at e; cases e
        | none =>
        have e : rdAc rest = none := by simp only [rdAc, d1, d2, d, Option.bind_some, Option.map_none]
        rw [e]
        exact ⟨M, l', rfl, k1.trans (k2.trans kk), q', hl⟩
    · rintro _ M ⟨rfl, e, kk, l', q', hl⟩
      cases d : rdN 1 a.2 with
      | some a => rw [d] at e; cases e
      | none =>
      have e : rdAc rest = none := by simp only [rdAc, d1, d, Option.bind_some, Option.bind_none]
      rw [e]
      exact ⟨M, l', rfl, k1.trans kk, q', hl⟩
  · rintro _ M ⟨rfl, e, kk, l', q', hl⟩
    cases d : rdN 1 rest with
    | some a => rw [d] at e; cases e
    | none =>
    have e : rdAc rest = none := by simp only [rdAc, d, Option.bind_none]
    rw [e]
    exact ⟨M, l', rfl, kk, q', hl⟩
end Go.Proofs.Ytjjenpdjmcmgbaa
namespace Go.Proofs.Ytjjenpdjmcmgbaa
open Go Ab
set_option linter.unusedSimpArgs false
set_option linter.unusedVariables false
set_option maxRecDepth 20000
/-- So many elements, one behind the other. -/
def rdMany {α : Type} (pe : List Nat → Option (α × List Nat)) (rest : List Nat) : Nat → Option (List α × List Nat)
  | 0 => some ([], rest)
  | n + 1 => (rdMany pe rest n).bind fun t => (pe t.2).map fun a => (t.1 ++ [a.1], a.2)
theorem rdMany_none {α : Type} {pe : List Nat → Option (α × List Nat)} {rest : List Nat} : ∀ {j n : Nat}, j ≤ n → rdMany pe rest j = none → rdMany pe rest n = none
  | j, 0, h, e => by
    obtain rfl : j = 0 := by omega
    exact e
  | j, n + 1, h, e => by
    rcases Nat.lt_or_ge n j with g | g
    · obtain rfl : j = n + 1 := by omega
      exact e
    · simp only [rdMany, rdMany_none g e, Option.bind_none]
theorem rdMany_len {α : Type} {pe : List Nat → Option (α × List Nat)} {rest : List Nat} : ∀ {n : Nat} {t : List α × List Nat}, rdMany pe rest n = some t → t.1.length = n
  | 0, t, e => by cases e; rfl
  | n + 1, t, e => by
    simp only [rdMany] at e
    cases h : rdMany pe rest n with
    | none => rw [h] at e; cases e
    | some u =>
      rw [h] at e
      simp only [Option.bind_some] at e
      cases g : pe u.2 with
      | none => rw [g] at e; cases e
      | some a =>
        rw [g] at e
        cases e
        simp [rdMany_len h]
/-- A list's parser: its length in two bytes, then its elements. -/
def rdL {α : Type} (pe : List Nat → Option (α × List Nat)) (rest : List Nat) : Option (List α × List Nat) := (rdN 2 rest).bind fun n => rdMany pe n.2 n.1
/-- The elements so far: no slice yet, or a row. -/
def bufR (s k : Nat) : List (List V) → V
  | [] => .nils
  | _ :: l => .sl s k 0 (l.length + 1)
theorem bufR_cons {s k : Nat} {es : List (List V)} (h : es ≠ []) : bufR s k es = .sl s k 0 es.length := by cases es <;> simp_all [bufR]
theorem bufR_snoc (s k : Nat) (es : List (List V)) (x : List V) : bufR s k (es ++ [x]) = .sl s k 0 (es.length + 1) := by rw [bufR_cons (by simp)]; simp
def killE (m : Mem) (k : Nat) (es : List (List V)) : Mem := match es with
  | [] => m
  | _ :: _ => m.set k .dead
theorem killE_len (m : Mem) (k : Nat) (es : List (List V)) : (killE m k es).length = m.length := by cases es <;> simp [killE]
theorem killE_at {m : Mem} {k n : Nat} {es : List (List V)} (h : es ≠ [] → n ≠ k) : (killE m k es)[n]? = m[n]? := by
  cases es with
  | nil => rfl
  | cons b l => exact List.getElem?_set_ne (fun e => h (by simp) e.symm)
section
variable {P : Program} {m : Mem} {t e : TypeId} {s by_ : Nat} {z x : List V}
theorem apR {es : List (List V)} {k n : Nat} (ht : P.underlying t = some (.slice e)) (hz : zeroE P e = some (z, s, by_)) (hu : isSliceT P t = true) (hby : by_ ≤ 1000) (hk : m[k]? = some (.row e s [x])) (hm : es ≠ [] → m[n]? = some (.row e s es)) (hl : es.length < 1000000) :
    appendA P t t (bufR s n es) (.sl s k 0 1) m = some (bufR s m.length (es ++ [x]), killE m n es ++ [.row e s (es ++ [x])]) := by
  rw [bufR_snoc]
  cases es with
  | nil => exact append_nil ht hz hu (cont_row hk rfl) (by simp) (by simp; omega) (by simp)
  | cons a r =>
    have hb : ((a :: r).length + [x].length) * by_ ≤ 140737488355328 := by
      have h1 : ((a :: r).length + [x].length) * by_ ≤ 1000001 * 1000 := Nat.mul_le_mul (by simp at hl ⊢; omega) hby
      omega
    have := append_sl (len := (a :: r).length) ht hz hu (cont_row hk rfl) (hm (by simp)) (by simp) hb (by simp at hl ⊢; omega)
    simpa [bufR, killE] using this
theorem bs1 {v : V} (ht : P.underlying t = some (.slice e)) (hz : zeroE P e = some (z, s, by_)) (hv : stys [v] = true) (hl : (cellsOfV v).length = s) (hs : s ≤ 1000) (hc : cellsB v = true) : bsliceV P t 1 [(0, v)] m = some (.sl s m.length 0 1, m ++ [.row e s [cellsOfV v]]) := by
  have h2 : Nat.ble 1 16777216 = true := by decide
  have h3 : frzQ P e m [(0, v)] = some ([(0, v)], m) := frzQ_nf _ _ hv
  have h4 : Nat.ble s 16777216 = true := by simp; omega
  have h5 : Nat.beq s s = true := by simp
  simp [bsliceV, ht, hz, h3, h4, fillE, hc, hl]
end
end Go.Proofs.Ytjjenpdjmcmgbaa
