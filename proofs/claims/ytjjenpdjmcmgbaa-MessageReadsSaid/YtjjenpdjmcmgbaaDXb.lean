/- A message's coder in memory; numbers that it writes. No condition. Memory that a call leaves, told otherwise: a cell's row is frozen; a nil slice is told as an empty one. No condition. Numbers that the coder reads. No condition. -/
import Derived.Test.YtjjenpdjmcmgbaaDFx
import Derived.Test.YtjjenpdjmcmgbaaDAm9
namespace Go.Proofs.Ytjjenpdjmcmgbaa
open Go Ab
set_option linter.unusedSimpArgs false
set_option linter.unusedVariables false
set_option maxRecDepth 20000
def keeps := PLift.up (And.intro (And.intro (And.intro (And.intro (And.intro @List.getElem?_toArray.{0} @eq_self.{1}) (And.intro @beq_self_eq_true.{0} (And.intro @Option.bind_some.{0, 0} @Option.map_some.{0, 0}))) (And.intro (And.intro @Option.bind_none.{0, 0} (And.intro @Option.map_none.{0, 0} @List.map_cons.{0, 0})) (And.intro @List.map_nil.{0, 0} (And.intro @List.getD_cons_zero.{0} @List.getD_cons_succ.{0})))) (And.intro (And.intro (And.intro @List.getD_nil.{0} (And.intro @List.length_nil.{0} @List.length_cons.{0})) (And.intro @List.length_set.{0} (And.intro @List.nil_append.{0} @List.cons_append.{0}))) (And.intro (And.intro @List.append_nil.{0} (And.intro @List.getElem?_cons_zero.{0} @List.getElem?_cons_succ.{0})) (And.intro @List.getElem?_nil.{0} (And.intro @List.set_cons_zero.{0} @List.set_cons_succ.{0}))))) (And.intro (And.intro (And.intro (And.intro @Nat.zero_add @Nat.add_zero) (And.intro @Nat.mul_one (And.intro @Nat.mul_zero @Nat.zero_mul))) (And.intro (And.intro @Nat.succ_ne_self (And.intro @if_true.{1} @if_false.{1})) (And.intro @ite_self.{1} (And.intro @decide_true @decide_false)))) (And.intro (And.intro (And.intro @Bool.not_true (And.intro @Bool.not_false @Bool.and_true)) (And.intro @Bool.true_and (And.intro @Bool.and_false @Bool.false_and))) (And.intro (And.intro @Bool.or_true (And.intro @Bool.true_or @Bool.or_false)) (And.intro @Bool.false_or (And.intro @cond_true.{1} @cond_false.{1}))))))
def byC (b : Nat) : List V := [.int .u8 (b : Int)]
def byV (l : List Nat) : V := .isl 1 (l.map byC)
def rowB (l : List Nat) : B := .row 5 1 (l.map byC)
/-- A number in so many bytes, the greatest first: the first k of them. -/
def putB (x n k : Nat) : List Nat := (List.range k).map fun i => x / 2 ^ (8 * (n - 1 - i)) % 256
theorem putB_len (x n k : Nat) : (putB x n k).length = k := by simp [putB]
theorem putB_snoc (x n k : Nat) : putB x n (k + 1) = putB x n k ++ [x / 2 ^ (8 * (n - 1 - k)) % 256] := by simp [putB, List.range_succ]
theorem putB_lt (x n k : Nat) : ∀ b ∈ putB x n k, b < 256 := by
  intro b hb
  obtain ⟨i, _, rfl⟩ := List.mem_map.1 hb
  exact Nat.mod_lt _ (by decide)
def enc (x n : Nat) : List Nat := putB x n n
theorem enc_len (x n : Nat) : (enc x n).length = n := putB_len x n n
theorem un34 : Try.prog.underlying 34 = some (.slice 5) := by kernel_rfl
theorem ze5 : zeroE Try.prog 5 = some ([.int .u8 0], 1, 1) := by kernel_rfl
theorem isl34 : isSliceT Try.prog 34 = true := by kernel_rfl
theorem bs34 (m : Mem) (b : Nat) : bsliceV Try.prog 34 1 [(0, .int .u8 (b : Int))] m = some (.sl 1 m.length 0 1, m ++ [rowB [b]]) := by
  have h2 : Nat.ble 1 16777216 = true := by decide
  have h3 : frzQ Try.prog 5 m [(0, V.int .u8 (b : Int))] = some ([(0, V.int .u8 (b : Int))], m) := frzQ_nf _ _ rfl
  simp [bsliceV, ze5, h3, h2, fillE, cellsOfV, cellsB, oneV, rowB, byC]
/-- The bytes so far: no slice yet, or a row. -/
def buf (k : Nat) : List Nat → V
  | [] => .nils
  | b :: l => .sl 1 k 0 (l.length + 1)
theorem buf_cons {k : Nat} {l : List Nat} (h : l ≠ []) : buf k l = .sl 1 k 0 l.length := by cases l <;> simp_all [buf]
theorem buf_snoc (k : Nat) (l : List Nat) (b : Nat) : buf k (l ++ [b]) = .sl 1 k 0 (l.length + 1) := by rw [buf_cons (by simp)]; simp
theorem len_buf (m : Mem) (k : Nat) (l : List Nat) : lenV Try.prog m 34 (buf k l) = some (.int .i64 (l.length : Int)) := by
  cases l with
  | nil => exact lnn34 m
  | cons b l => exact lns34 m _ _ _ _
theorem cont_r {m : Mem} {k : Nat} {l : List Nat} (hm : m[k]? = some (rowB l)) : contV m 1 (.sl 1 k 0 l.length) = some (l.map byC) := cont_row hm (by simp)
def killR (m : Mem) (k : Nat) (l : List Nat) : Mem := match l with
  | [] => m
  | _ :: _ => m.set k .dead
theorem killR_len (m : Mem) (k : Nat) (l : List Nat) : (killR m k l).length = m.length := by cases l <;> simp [killR]
theorem killR_at {m : Mem} {k : Nat} {l : List Nat} {n : Nat} (h : l ≠ [] → n ≠ k) : (killR m k l)[n]? = m[n]? := by
  cases l with
  | nil => rfl
  | cons b l => exact List.getElem?_set_ne (fun e => h (by simp) e.symm)
theorem ap34 {m : Mem} {l : List Nat} {b k n : Nat} (hk : m[k]? = some (rowB [b])) (hm : l ≠ [] → m[n]? = some (rowB l)) (hl : l.length < 1000000) :
    appendA Try.prog 34 34 (buf n l) (.sl 1 k 0 1) m = some (buf m.length (l ++ [b]), killR m n l ++ [rowB (l ++ [b])]) := by
  rw [buf_snoc]
  cases l with
  | nil => exact append_nil un34 ze5 isl34 (cont_row hk rfl) (by simp) (by simp) (by simp)
  | cons a r =>
    have := append_sl (len := (a :: r).length) un34 ze5 isl34 (cont_row hk rfl) (hm (by simp)) (by simp) (by simp at hl ⊢; omega) (by simp at hl ⊢; omega)
    simpa [rowB, buf, killR] using this
/-- The coder stands at block c, and has written these bytes. -/
def Cd (m : Mem) (c : Nat) (l : List Nat) : Prop := ∃ k, m[c]? = some (.var 71 [buf k l, .bool false]) ∧ (l ≠ [] → m[k]? = some (rowB l)) ∧ l.length ≤ 8200
/-- The row of the coder at block c. -/
def Own1 (c : Nat) (m : Mem) (n : Nat) : Prop := ∃ len x, m[c]? = some (.var 71 [.sl 1 n 0 len, x])
/-- All but the coder and its row stays. -/
def Kv (c : Nat) (m m' : Mem) : Prop := (m.length ≤ m'.length ∧ (∀ n b, n ≠ c → ¬ Own1 c m n → m[n]? = some b → m'[n]? = some b) ∧ ∀ n, n < m.length → Own1 c m' n → Own1 c m n) ∧ ∀ n ty l, n ≠ c → m[n]? = some (.var ty l) → m'[n]? = some (.var ty l)
theorem Kv.refl (c : Nat) (m : Mem) : Kv c m m := ⟨⟨Nat.le_refl _, fun _ _ _ _ h => h, fun _ _ h => h⟩, fun _ _ _ _ h => h⟩
theorem Kv.trans {c : Nat} {m m' m'' : Mem} (h : Kv c m m') (g : Kv c m' m'') : Kv c m m'' :=
  ⟨⟨Nat.le_trans h.1.1 g.1.1, fun n b hn ho hm => g.1.2.1 n b hn (fun h' => ho (h.1.2.2 n (List.getElem?_eq_some_iff.1 hm).1 h')) (h.1.2.1 n b hn ho hm), fun n hn ho => h.1.2.2 n hn (g.1.2.2 n (Nat.lt_of_lt_of_le hn h.1.1) ho)⟩,
   fun n ty l hn hm => g.2 n ty l hn (h.2 n ty l hn hm)⟩
theorem Kv.app' {c : Nat} {m : Mem} (hc : c < m.length) (ex : Mem) : Kv c m (m ++ ex) :=
  ⟨⟨by simp, fun n b _ _ hm => by rw [List.getElem?_append_left (List.getElem?_eq_some_iff.1 hm).1]; exact hm, fun n _ ⟨len, x, h⟩ => ⟨len, x, by rwa [List.getElem?_append_left hc] at h⟩⟩,
   fun n ty l _ hm => by rw [List.getElem?_append_left (List.getElem?_eq_some_iff.1 hm).1]; exact hm⟩
theorem Kv.le {c : Nat} {m m' : Mem} (h : Kv c m m') : m.length ≤ m'.length := h.1.1
theorem Cd.lt {m : Mem} {c : Nat} {l : List Nat} (h : Cd m c l) : c < m.length := by obtain ⟨k, h, _⟩ := h; exact (List.getElem?_eq_some_iff.1 h).1
theorem Kv.app {m : Mem} {c : Nat} {l : List Nat} (h : Cd m c l) (ex : Mem) : Kv c m (m ++ ex) := Kv.app' h.lt ex
theorem Cd.app {m : Mem} {c : Nat} {l : List Nat} (h : Cd m c l) (ex : Mem) : Cd (m ++ ex) c l := by
  obtain ⟨k, h1, h2, h3⟩ := h
  refine ⟨k, ?_, fun hl => ?_, h3⟩
  · rw [List.getElem?_append_left (List.getElem?_eq_some_iff.1 h1).1]; exact h1
  · rw [List.getElem?_append_left (List.getElem?_eq_some_iff.1 (h2 hl)).1]; exact h2 hl
/-- What a pointer points at: cells that stand in a variable (not the coder), or that nobody writes. -/
def Tg (c : Nat) (m : Mem) (p : V) (l : List V) : Prop := p = .ip l ∨ ∃ q off ty l0, p = .ptr q off ∧ q ≠ c ∧ m[q]? = some (.var ty l0) ∧ l0.drop off = l ∧ off ≤ l0.length
def pAdd (o : Nat) : V → V
  | .ptr q off => .ptr q (off + o)
  | .ip l => .ip (l.drop o)
  | v => v
section
variable {c : Nat} {m m' : Mem} {p : V} {l : List V}
theorem Tg.keep (h : Tg c m p l) (hk : Kv c m m') : Tg c m' p l := by
  rcases h with rfl | ⟨q, off, ty, l0, rfl, h1, h2, h3, h4⟩
  · exact .inl rfl
  · exact .inr ⟨q, off, ty, l0, rfl, h1, hk.2 q ty l0 h1 h2, h3, h4⟩
theorem Tg.nn (h : Tg c m p l) : nonnil p = true := by
  rcases h with rfl | ⟨q, off, ty, l0, rfl, _⟩ <;> rfl
theorem Tg.load1 {v : V} (h : Tg c m p (v :: l)) {s : Nat} : loadK false s m p = some v := by
  rcases h with rfl | ⟨q, off, ty, l0, rfl, h1, h2, h3, h4⟩
  · rfl
  · rw [loadK_ptr, h2]
    show l0[off]? = _
    have := congrArg (·[0]?) h3
    simpa using this
theorem Tg.loadA (h : Tg c m p l) {s : Nat} (hs : s ≤ l.length) : loadK true s m p = some (.agg (l.take s)) := by
  rcases h with rfl | ⟨q, off, ty, l0, rfl, h1, h2, rfl, h4⟩
  · rw [loadK_ip]
    simp [partK, hs]
  · rw [loadK_ptr, h2]
    rw [List.length_drop] at hs
    simp only [Option.bind_some, partK, cond_true]
    rw [if_pos (by omega)]
theorem Tg.fa {o : Nat} (h : Tg c m p l) (ho : o ≤ l.length) : faddrK o p = some (pAdd o p) ∧ Tg c m (pAdd o p) (l.drop o) := by
  rcases h with rfl | ⟨q, off, ty, l0, rfl, h1, h2, rfl, h4⟩
  · exact ⟨by simp only [faddrK, pAdd, if_pos ho], .inl rfl⟩
  · rw [List.length_drop] at ho
    exact ⟨rfl, .inr ⟨q, off + o, ty, l0, rfl, h1, h2, by rw [List.drop_drop], by omega⟩⟩
theorem Tg.ia {j n : Nat} {k : IntKind} (h : Tg c m p l) (hj : j < n) (ho : j ≤ l.length) : iaddrA n 1 p (.int k (j : Int)) = some (pAdd j p) ∧ Tg c m (pAdd j p) (l.drop j) := by
  rcases h with rfl | ⟨q, off, ty, l0, rfl, h1, h2, rfl, h4⟩
  · exact ⟨by rw [iaddrA_ip hj, Nat.mul_one]; rfl, .inl rfl⟩
  · rw [List.length_drop] at ho
    exact ⟨by rw [iaddrA_nat hj, Nat.mul_one]; rfl, .inr ⟨q, off + j, ty, l0, rfl, h1, h2, by rw [List.drop_drop], by omega⟩⟩
theorem set_same {m : Mem} {q : Nat} {b : B} (h : m[q]? = some b) : m.set q b = m := by
  obtain ⟨h1, rfl⟩ := List.getElem?_eq_some_iff.1 h
  exact List.set_getElem_self h1
theorem Tg.still {k : IntKind} {x : Int} (h : Tg c m p (.int k x :: l)) : storeK 1 m p (.int k x) = some m := by
  rcases h with rfl | ⟨q, off, ty, l0, rfl, h1, h2, h3, h4⟩
  · have : stillB (.int k x :: l) (cellsOfV (.int k x)) = true := by simp [stillB, cellsOfV, plainEq]
    simp only [storeK, this, if_true]
    rfl
  · have hx : l0[off]? = some (.int k x) := by
      have := congrArg (·[0]?) h3
      simpa using this
    have hlt : off < l0.length := (List.getElem?_eq_some_iff.1 hx).1
    rw [storeK_int, h2]
    simp only [Option.bind_some, if_pos hlt]
    rw [show l0.set off (.int k x) = l0 from by
      obtain ⟨h5, h6⟩ := List.getElem?_eq_some_iff.1 hx
      rw [← h6]; exact List.set_getElem_self h5]
    rw [set_same h2]
theorem Tg.stillb {b : Bool} (h : Tg c m p (.bool b :: l)) : storeK 1 m p (.bool b) = some m := by
  rcases h with rfl | ⟨q, off, ty, l0, rfl, h1, h2, h3, h4⟩
  · have : stillB (.bool b :: l) (cellsOfV (.bool b)) = true := by simp [stillB, cellsOfV, plainEq]
    simp only [storeK, this, if_true]
    rfl
  · have hx : l0[off]? = some (.bool b) := by
      have := congrArg (·[0]?) h3
      simpa using this
    have hlt : off < l0.length := (List.getElem?_eq_some_iff.1 hx).1
    rw [storeK_one rfl, h2]
    simp only [Option.bind_some, if_pos hlt]
    rw [show l0.set off (.bool b) = l0 from by
      obtain ⟨h5, h6⟩ := List.getElem?_eq_some_iff.1 hx
      rw [← h6]; exact List.set_getElem_self h5]
    rw [set_same h2]
theorem Tg.var {q ty : Nat} (h : m[q]? = some (.var ty l)) (hq : q ≠ c) : Tg c m (.ptr q 0) l := .inr ⟨q, 0, ty, l, rfl, hq, h, rfl, by omega⟩
end
def longV : V := .ifc 84 (.agg [])
/-- What comes of a writing call: the bytes stand behind what was there, or the message is too long. -/
def WQ (c : Nat) (m : Mem) (l e : List Nat) (r : CR) : Prop :=
  (∃ m', r = .ret (.tup []) m' ∧ Kv c m m' ∧ Cd m' c (l ++ e)) ∨ (∃ m', r = .pan longV m' ∧ Kv c m m' ∧ 8192 < (l ++ e).length)
theorem callD_q {f : FuncId} {vs : List V} {m : Mem} {K Kp : V → Mem → Prop} {Q : CR → Prop} (h : Snd Try.prog f vs m Q) (he : enterable Try.prog f = true) (hr : ∀ v m1, Q (.ret v m1) → K v m1) (hp : ∀ v m1, Q (.pan v m1) → Kp v m1) : callD Try.prog f vs m K Kp :=
  .inr ⟨he, Q, h, fun r hq => by
    cases r with
    | ret v m1 => exact hr v m1 hq
    | pan v m1 => exact hp v m1 hq⟩
theorem callD_w {f : FuncId} {vs : List V} {m : Mem} {K Kp : V → Mem → Prop} {c : Nat} {l e : List Nat} (h : Snd Try.prog f vs m (WQ c m l e)) (he : enterable Try.prog f = true) (hr : ∀ m1, Kv c m m1 → Cd m1 c (l ++ e) → K (.tup []) m1) (hp : ∀ m1, Kv c m m1 → 8192 < (l ++ e).length → Kp longV m1) : callD Try.prog f vs m K Kp := by
  refine callD_q h he ?_ ?_
  · rintro v m1 (⟨m', h1, h2, h3⟩ | ⟨m', h1, _⟩)
    · cases h1; exact hr _ h2 h3
    · cases h1
  · rintro v m1 (⟨m', h1, _⟩ | ⟨m', h1, h2, h3⟩)
    · cases h1
    · cases h1; exact hp _ h2 h3
theorem wz (z : Int) (h1 : -9223372036854775808 ≤ z) (h2 : z < 9223372036854775808) : IntKind.i64.wrap z = z := by rw [IntKind.wrap_i64]; omega
theorem wz8 (x : Nat) : IntKind.u8.wrap (x : Int) = ((x % 256 : Nat) : Int) := by rw [IntKind.wrap_u8]; omega
theorem geI (n : Nat) : decide ((0 : Int) ≤ (n : Int)) = true := by simp
theorem wrapU (n : Nat) (h : n < 18446744073709551616) : IntKind.u64.wrap (n : Int) = (n : Int) := by rw [IntKind.wrap_u64]; omega
theorem shrW (x w : Nat) (hw : w ≤ 64) : (x : Int).fdiv (2 ^ (min w IntKind.u64.bits)) = ((x / 2 ^ w : Nat) : Int) := by
  have h1 : min w IntKind.u64.bits = w := Nat.min_eq_left hw
  rw [h1, Int.fdiv_eq_ediv_of_nonneg _ (Int.pow_nonneg (by omega))]
  simp
theorem ltN8 (n : Nat) : decide ((8192 : Int) < (n : Int)) = decide (8192 < n) := by rw [Bool.eq_iff_iff]; simp; omega
theorem co84 : Try.prog.concrete 84 = true := by kernel_rfl
theorem co62 : Try.prog.concrete 62 = true := by kernel_rfl
/-- The states of memory while one byte is put behind. -/
def m1 (m : Mem) (b : Nat) : Mem := m ++ [rowB [b]]
def m2 (m : Mem) (k : Nat) (l : List Nat) (b : Nat) : Mem := killR (m1 m b) k l ++ [rowB (l ++ [b])]
def m3 (m : Mem) (c k : Nat) (l : List Nat) (b : Nat) : Mem := (m2 m k l b).set c (.var 71 [buf (m.length + 1) (l ++ [b]), .bool false])
def J1 (m : Mem) (c k : Nat) (l : List Nat) (b : Nat) (i : Nat) (M : Mem) : Prop := [m, m1 m b, m2 m k l b, m3 m c k l b][i]? = some M
section
variable {m : Mem} {c k b : Nat} {l : List Nat}
theorem J1_k (h1 : m[c]? = some (.var 71 [buf k l, .bool false])) (h2 : l ≠ [] → m[k]? = some (rowB l)) : ∀ i M, J1 m c k l b i M → Kv c m M ∧ (i ≤ 2 → M[c]? = some (.var 71 [buf k l, .bool false])) := by
  have hc := (List.getElem?_eq_some_iff.1 h1).1
  have hne : ∀ (n ty : Nat) (es : List V), m[n]? = some (B.var ty es) → l ≠ [] → n ≠ k := fun n ty es hn hl he => by
    rw [he, h2 hl] at hn
    cases hn
  have how : l ≠ [] → Own1 c m k := fun hl => ⟨l.length, .bool false, by rw [h1, buf_cons hl]⟩
  have e0 : ∀ (n : Nat) (b' : B), m[n]? = some b' → (l ≠ [] → n ≠ k) → (m2 m k l b)[n]? = some b' := by
    intro n b' hn hnk
    have hlt := (List.getElem?_eq_some_iff.1 hn).1
    have hl : n < (killR (m1 m b) k l).length := by rw [killR_len]; simp [m1]; omega
    rw [m2, List.getElem?_append_left hl, killR_at hnk, m1, List.getElem?_append_left hlt, hn]
  have e2 : ∀ (n ty : Nat) (e : List V), m[n]? = some (B.var ty e) → (m2 m k l b)[n]? = some (B.var ty e) := fun n ty es hn => e0 n _ hn (hne n ty es hn)
  have l2 : (m2 m k l b).length = m.length + 2 := by simp [m2, killR_len, m1]
  rintro (_ | _ | _ | _ | i) M h
  · cases h; exact ⟨Kv.refl _ _, fun _ => h1⟩
  · cases h
    exact ⟨Kv.app' hc _, fun _ => by rw [m1, List.getElem?_append_left hc, h1]⟩
  · cases h
    refine ⟨⟨⟨by omega, fun n b' _ ho hn => e0 n b' hn fun hl he => ho (he ▸ how hl), fun n _ ⟨len, x, ho⟩ => ?_⟩, fun n ty es _ hn => e2 n ty es hn⟩, fun _ => e2 _ _ _ h1⟩
    rw [e2 _ _ _ h1] at ho
    exact ⟨len, x, h1.trans ho⟩
  · cases h
    refine ⟨⟨⟨by simp [m3, l2], fun n b' hn ho hm => ?_, fun n hn ⟨len, x, ho⟩ => ?_⟩, fun n ty es hn hm => ?_⟩, fun h => by omega⟩
    · rw [m3, List.getElem?_set_ne (fun h => hn h.symm)]
      exact e0 n b' hm fun hl he => ho (he ▸ how hl)
    · rw [m3, List.getElem?_set_self (by omega), buf_snoc] at ho
      cases ho
      omega
    · rw [m3, List.getElem?_set_ne (fun h => hn h.symm)]
      exact e2 n ty es hm
  · simp [J1] at h
theorem m3_cd (h1 : m[c]? = some (.var 71 [buf k l, .bool false])) (hb : l.length < 8200) : Cd (m3 m c k l b) c (l ++ [b]) := by
  have hc := (List.getElem?_eq_some_iff.1 h1).1
  have l2 : (m2 m k l b).length = m.length + 2 := by simp [m2, killR_len, m1]
  refine ⟨m.length + 1, ?_, fun _ => ?_, by simp; omega⟩
  · rw [m3, List.getElem?_set_self (by omega)]
  · rw [m3, List.getElem?_set_ne (by omega), m2, List.getElem?_append_right (by simp [killR_len, m1]), killR_len]
    simp [m1]
end
def loop31 (c : Nat) (p : V) (n j : Nat) : List (Nat × V) := [(0, .ptr c 0), (1, p), (8, .int .i64 ((n : Int) - 1 - (j : Int)))]
set_option maxHeartbeats 1000000 in
theorem snd31 {m : Mem} {c : Nat} {p : V} {t : List V} {B : List Nat} {x n : Nat} (hc : Cd m c B) (hp : Tg c m p (.int .u64 (x : Int) :: t)) (h0 : 0 < n) (hn : n ≤ 8) : Snd Try.prog 31 [.ptr c 0, p, .int .i64 (n : Int)] m (WQ c m B (enc x n)) := by
  refine Snd_of_W fol rfl rfl (by kernel_rfl) (by kernel_rfl) ?_
  obtain ⟨k, hk1, hk2, hk3⟩ := hc
  have hnn : ∀ o, nonnil (.ptr c o) = true := fun _ => rfl
  have w0 := wz ((n : Int) - 1) (by omega) (by omega)
  cases e : decide (8192 < B.length)
  · simp -implicitDefEqProofs only [sims.1, fx.1, keeps.1, tick_on, faddrK, nonnil, Nat.reduceEqDiff, hk1, len_buf, ltN8, e, w0]
    have hB : B.length ≤ 8192 := by simpa using e
    refine W_loopM (loop31 c p n) (fun j M => j ≤ n ∧ Kv c m M ∧ Cd M c (B ++ putB x n j)) (fun j => n + 1 - j) 0 (Eq.trans (b := [(0, .ptr c 0), (1, p), (8, .int .i64 ((n : Int) - 1))]) (by kernel_rfl) (by simp [loop31])) ⟨by omega, Kv.refl _ _, by simpa [putB] using ⟨k, hk1, hk2, hk3⟩⟩ ?_
    rintro j M ⟨h1, h2, k', h3, h4, h5⟩
    rcases Nat.lt_or_ge j n with hj | hj
    · have hidx : (n : Int) - 1 - (j : Int) = ((n - 1 - j : Nat) : Int) := by omega
      have w1 := wz (8 * ((n - 1 - j : Nat) : Int)) (by omega) (by omega)
      have e1 : 8 * ((n - 1 - j : Nat) : Int) = ((8 * (n - 1 - j) : Nat) : Int) := by omega
      have w2 := wrapU (8 * (n - 1 - j)) (by omega)
      have s1 := shrW x (8 * (n - 1 - j)) (by omega)
      have n1 : ¬ (((8 * (n - 1 - j) : Nat) : Int) < 0) := by omega
      have w3 := wz8 (x / 2 ^ (8 * (n - 1 - j)))
      have w4 := wz (((n - 1 - j : Nat) : Int) - 1) (by omega) (by omega)
      have e4 : ((n - 1 - j : Nat) : Int) - 1 = (n : Int) - 1 - ((j + 1 : Nat) : Int) := by omega
      rw [e1] at w1
      have w5 := w4.trans e4
      clear w4 e4
      simp -implicitDefEqProofs only [sims.1, keeps.1, tick_on, Nat.reduceEqDiff, loop31, hidx, geI]
      have hJ := J1_k (b := x / 2 ^ (8 * (n - 1 - j)) % 256) h3 h4
      have hlen : (B ++ putB x n j).length < 1000000 := by rw [List.length_append, putB_len]; omega
      refine w_calls (J1 M c k' (B ++ putB x n j) (x / 2 ^ (8 * (n - 1 - j)) % 256)) [13, 14, 17]
        [.ptr c 0, .ptr c 0, .ptr c 0, .ptr c 0, buf k' (B ++ putB x n j), p, p, .int .u64 (x : Int), .int .i64 ((n - 1 - j : Nat) : Int), .int .i64 ((8 * (n - 1 - j) : Nat) : Int), .int .u64 ((8 * (n - 1 - j) : Nat) : Int), .int .u64 ((x / 2 ^ (8 * (n - 1 - j)) : Nat) : Int), .int .u8 ((x / 2 ^ (8 * (n - 1 - j)) % 256 : Nat) : Int), .sl 1 M.length 0 1, buf (M.length + 1) (B ++ putB x n j ++ [x / 2 ^ (8 * (n - 1 - j)) % 256]), .ptr c 0, .ptr c 0, .tup []] (by kernel_rfl) rfl ?_ ?_
      · have hld := fun i M' h => hp.keep (h2.trans (hJ i M' h).1)
        have hnp : nonnil p = true := hp.nn
        refine okN_pure rfl rfl rfl (fun _ _ _ => rfl) ?_
        refine okN_pure rfl rfl rfl (fun _ _ _ => rfl) ?_
        refine okN_pure rfl rfl rfl (fun _ _ _ => rfl) ?_
        refine okN_pure rfl rfl rfl (fun _ _ _ => by kernel_rfl) ?_
        refine okN_early 1 rfl rfl rfl rfl (fun i M' hi h => by
          show Option.map (Res.val · M') (loadV Try.prog M' 34 (.ptr c 0)) = _
          rw [ld34, loadK_ptr, (hJ i M' h).2 (by omega)]
          rfl) ?_
        refine okN_pure rfl rfl rfl (fun _ _ _ => rfl) ?_
        refine okN_pure rfl rfl rfl (fun _ M' _ => by
          show (bif nonnil p then some (Res.val p M') else none) = _
          rw [hnp]
          rfl) ?_
        refine okN_pure rfl rfl rfl (fun i M' h => by
          show Option.map (Res.val · M') (loadV Try.prog M' 24 p) = _
          rw [ld24, (hld i M' h).load1]
          rfl) ?_
        refine okN_pure rfl rfl rfl (fun _ _ _ => rfl) ?_
        refine okN_pure rfl rfl rfl (fun _ M' _ => by
          show Option.map (Res.val · M') (binV Try.prog .mul 3 (.int .i64 8) (.int .i64 ((n - 1 - j : Nat) : Int))) = _
          rw [b_mul, e1, w1]
          rfl) ?_
        refine okN_pure rfl rfl rfl (fun _ M' _ => by
          show Option.map (Res.val · M') (convM Try.prog M' 3 60 (.int .i64 ((8 * (n - 1 - j) : Nat) : Int))) = _
          rw [convM_int, cv3_60, w2]
          rfl) ?_
        refine okN_pure rfl rfl rfl (fun _ M' _ => by
          show Option.map (Res.val · M') (binV Try.prog .shr 24 (.int .u64 (x : Int)) (.int .u64 ((8 * (n - 1 - j) : Nat) : Int))) = _
          rw [b_shr, if_neg n1, Int.toNat_natCast, s1]
          rfl) ?_
        refine okN_pure rfl rfl rfl (fun _ M' _ => by
          show Option.map (Res.val · M') (convM Try.prog M' 24 5 (.int .u64 ((x / 2 ^ (8 * (n - 1 - j)) : Nat) : Int))) = _
          rw [convM_int, cv24_5, w3]
          rfl) ?_
        refine okN_val rfl rfl rfl rfl (fun M' h => ⟨m1 M (x / 2 ^ (8 * (n - 1 - j)) % 256), ?_, rfl⟩) ?_
        · cases h
          show Option.map (fun p => Res.val p.1 p.2) (bsliceV Try.prog 34 1 [(0, .int .u8 ((x / 2 ^ (8 * (n - 1 - j)) % 256 : Nat) : Int))] M) = _
          rw [bs34]
          rfl
        refine okN_val rfl rfl rfl rfl (fun M' h => ⟨m2 M k' (B ++ putB x n j) (x / 2 ^ (8 * (n - 1 - j)) % 256), ?_, rfl⟩) ?_
        · cases h
          show Option.map (fun p => Res.val p.1 p.2) (appendA Try.prog 34 34 (buf k' (B ++ putB x n j)) (.sl 1 M.length 0 1) (m1 M (x / 2 ^ (8 * (n - 1 - j)) % 256))) = _
          rw [ap34 (b := x / 2 ^ (8 * (n - 1 - j)) % 256) (by simp [m1]) (fun hl => by rw [m1, List.getElem?_append_left (List.getElem?_eq_some_iff.1 (h4 hl)).1]; exact h4 hl) hlen]
          simp [m1, m2]
        refine okN_pure rfl rfl rfl (fun _ _ _ => rfl) ?_
        refine okN_pure rfl rfl rfl (fun _ _ _ => by kernel_rfl) ?_
        refine okN_skip rfl rfl rfl rfl (fun M' h => ⟨m3 M c k' (B ++ putB x n j) (x / 2 ^ (8 * (n - 1 - j)) % 256), ?_, rfl⟩) ?_
        · have hc2 := (hJ 2 M' h).2 (by omega)
          cases h
          show Option.map Res.skip (storeV Try.prog 34 (m2 M k' (B ++ putB x n j) (x / 2 ^ (8 * (n - 1 - j)) % 256)) (.ptr c 0) (buf (M.length + 1) (B ++ putB x n j ++ [x / 2 ^ (8 * (n - 1 - j)) % 256]))) = _
          rw [st34, storeK_one (by rw [buf_snoc]; rfl), hc2]
          simp [m3]
        exact okN_nil
      · intro M' h
        have hk3 := (hJ 3 M' h).1
        cases h
        simp -implicitDefEqProofs only [sims.1, keeps.1, tick_on, Nat.reduceEqDiff, putAll, w5]
        refine ⟨j + 1, by kernel_rfl, ⟨by omega, h2.trans hk3, ?_⟩, by omega⟩
        rw [putB_snoc, ← List.append_assoc]
        exact m3_cd h3 (by rw [List.length_append, putB_len]; omega)
    · obtain rfl : j = n := by omega
      have hidx : (j : Int) - 1 - (j : Int) = -1 := by omega
      have c1 : decide ((0 : Int) ≤ -1) = false := rfl
      simp -implicitDefEqProofs only [sims.1, keeps.1, tick_on, Nat.reduceEqDiff, Int.reduceLE, loop31, hidx]
      exact .inl ⟨M, rfl, h2, k', h3, h4, h5⟩
  · have h8 : 8192 < B.length := by simpa using e
    have b84 : buildV Try.prog 84 [] = some (.agg []) := by kernel_rfl
    simp -implicitDefEqProofs only [sims.1, fx.1, keeps.1, tick_on, faddrK, nonnil, Nat.reduceEqDiff, hk1, len_buf, ltN8, e]
    exact .inr ⟨m, rfl, Kv.refl _ _, by rw [List.length_append]; omega⟩
end Go.Proofs.Ytjjenpdjmcmgbaa
namespace Go.Proofs.Ytjjenpdjmcmgbaa
open Go Ab
set_option linter.unusedSimpArgs false
set_option linter.unusedVariables false
set_option maxRecDepth 20000
section
variable {ρ : Pl} {I : Nat → Prop} {m m2 : Mem} {w : World}
theorem recell (hr : Rep ρ I m w) {q ty o : Nat} {l : List V} {v' : V} (hq : m[q]? = some (.var ty l)) (ho : o < l.length)
    (hx : ∀ c : Array Value, w.heap[(ρ q).1]? = some (.cells c ty (0, 0)) → ∃ x, c[o]? = some x ∧ x.oneCell' = true ∧ RV m.length ρ I w v' x) :
    Rep ρ I (m.set q (.var ty (l.set o v'))) w ∧ Step ρ I m w ρ I (m.set q (.var ty (l.set o v'))) w := by
  refine hr.write ⟨_, hq, rfl⟩ _ rfl rfl rfl rfl (fun _ _ => rfl) (fun c ty h => ⟨c, h, rfl⟩) fun _ => ?_
  obtain ⟨h0, c, h1, h2, h3⟩ := hr.blk q _ hq
  refine ⟨h0, c, h1, by simpa using h2, Rc.mk fun i v hv => ?_⟩
  by_cases hi : o = i
  · subst hi
    rw [List.getElem?_set_self ho] at hv
    cases hv
    simpa using hx c h1
  · rw [List.getElem?_set_ne hi] at hv
    exact h3.get i v hv
theorem frcell (hr : Rep ρ I m w) {q ty o : Nat} {l : List V} {v v' v2 : V} (hq : m[q]? = some (.var ty l)) (ho : l[o]? = some v) (hf : frz m v = some (v', m2)) (hq2 : m2[q]? = some (.var ty l)) (hk : ∀ {N : Nat} {ρ : Pl} {I : Nat → Prop} {w : World} {x : Value}, RV N ρ I w v' x → RV N ρ I w v2 x) :
    ∃ I', Rep ρ I' (m2.set q (.var ty (l.set o v2))) w ∧ Step ρ I m w ρ I' (m2.set q (.var ty (l.set o v2))) w := by
  obtain ⟨h0, c, h1, h2, h3⟩ := hr.blk q _ hq
  obtain ⟨x, k1, k2, k3⟩ := h3.get o v ho
  rw [Nat.zero_add] at k1
  obtain ⟨I', r', s', v''⟩ := frz_sound hr k3 hf
  obtain ⟨r2, s2⟩ := recell r' hq2 (List.getElem?_eq_some_iff.1 ho).1 (v' := v2) fun c' hc' => by
    rw [h1] at hc'
    cases hc'
    exact ⟨x, k1, k2, hk v''⟩
  exact ⟨I', r2, s'.trans s2⟩
end
def toM : CR → Mem → CR
  | .ret v _, m => .ret v m
  | .pan v _, m => .pan v m
/-- What a call leaves, with one cell's row frozen. -/
theorem Snd_frzC {P : Program} {f : FuncId} {vs : List V} {m : Mem} {Q Q' : CR → Prop} (h : Snd P f vs m Q)
    (hq : ∀ r, Q r → Q' r ∨ ∃ q ty l o v v' v2 m2, r.mem[q]? = some (.var ty l) ∧ l[o]? = some v ∧ frz r.mem v = some (v', m2) ∧ m2[q]? = some (.var ty l) ∧ (v' = v2 ∨ (v' = .nils ∧ ∃ s, v2 = .isl s [])) ∧ Q' (toM r (m2.set q (.var ty (l.set o v2))))) : Snd P f vs m Q' := by
  intro ρ I w xs hr hl hrt
  refine (h ρ I w xs hr hl hrt).mono ?_
  rintro e w' ⟨r, h1, x, ρ', I', k0, k1, k2, k3⟩
  rcases hq r h1 with hq | ⟨q, ty, l, o, v, v', v2, m2, g1, g2, g3, g4, g5, g6⟩
  · exact ⟨r, hq, x, ρ', I', k0, k1, k2, k3⟩
  have hk : ∀ {N : Nat} {ρ : Pl} {I : Nat → Prop} {w : World} {x : Value}, RV N ρ I w v' x → RV N ρ I w v2 x := by
    intro N ρ I w x hx
    rcases g5 with rfl | ⟨rfl, s, rfl⟩
    · exact hx
    · simp only [RV] at hx ⊢
      exact ⟨none, 0, by simpa using hx, Nat.le_refl _, by simp⟩
  obtain ⟨I2, r2, s2⟩ := frcell k1 g1 g2 g3 g4 hk
  cases r with
  | ret u M => exact ⟨_, g6, x, ρ', I2, k0, r2, k2.trans s2, RV.keep s2.keeps _ _ k3⟩
  | pan u M => exact ⟨_, g6, x, ρ', I2, k0, r2, k2.trans s2, RV.keep s2.keeps _ _ k3⟩
end Go.Proofs.Ytjjenpdjmcmgbaa
namespace Go.Proofs.Ytjjenpdjmcmgbaa
open Go Ab
set_option linter.unusedSimpArgs false
set_option linter.unusedVariables false
set_option maxRecDepth 20000
/-- The number that these bytes tell, the greatest first. -/
def beV (l : List Nat) : Nat := l.foldl (fun x b => x * 256 + b) 0
theorem beV_snoc (l : List Nat) (b : Nat) : beV (l ++ [b]) = beV l * 256 + b := by simp [beV]
theorem beV_take {l : List Nat} {j : Nat} (h : j < l.length) : beV (l.take (j + 1)) = beV (l.take j) * 256 + l[j] := by
  rw [List.take_add_one, List.getElem?_eq_getElem h]
  exact beV_snoc _ _
theorem beV_lt {l : List Nat} (hb : ∀ b ∈ l, b < 256) : ∀ j, beV (l.take j) < 256 ^ j
  | 0 => by simp [beV]
  | j + 1 => by
    have ih := beV_lt hb j
    rcases Nat.lt_or_ge j l.length with h | h
    · rw [beV_take h, Nat.pow_succ]
      have := hb _ (List.getElem_mem h)
      omega
    · rw [List.take_of_length_le (by omega), Nat.pow_succ]
      rw [List.take_of_length_le h] at ih
      omega
theorem or8 (x b : Nat) (hx : x < 72057594037927936) (hb : b < 256) : bits .or .u64 ((x * 256 : Nat) : Int) (b : Int) = ((x * 256 + b : Nat) : Int) := by
  rw [bits_or_u64_nat _ _ (by omega) (by omega)]
  have := Nat.shiftLeft_add_eq_or_of_lt (i := 8) (b := b) (by simpa using hb) x
  rw [Nat.shiftLeft_eq] at this
  rw [← this]
theorem shl8 (x : Nat) (hx : x < 72057594037927936) : IntKind.u64.wrap ((x : Int) * 2 ^ min 8 IntKind.u64.bits) = ((x * 256 : Nat) : Int) := by
  simp [IntKind.wrap, IntKind.bits, IntKind.signed]; omega
theorem in5 : ∃ i, Try.prog.info? 5 = some i ∧ i.size = 1 := ⟨(Try.prog.info? 5).get rfl, rfl, by kernel_rfl⟩
theorem sl34hi {l : List Nat} {n : Nat} (h : n ≤ l.length) : sliceV Try.prog 34 (byV l) none (some (.int .i64 (n : Int))) = some (byV (l.take n)) := by
  obtain ⟨i, h1, h2⟩ := in5
  simp only [sliceV, byV, un34, h1, h2, bndV, List.length_map]
  simp only [show Nat.beq 1 1 = true from rfl, cond_true]
  rw [if_pos ⟨by omega, by omega, by omega⟩]
  simp [List.map_take]
theorem sl34lo {l : List Nat} {n : Nat} (h : n ≤ l.length) : sliceV Try.prog 34 (byV l) (some (.int .i64 (n : Int))) none = some (byV (l.drop n)) := by
  obtain ⟨i, h1, h2⟩ := in5
  simp only [sliceV, byV, un34, h1, h2, bndV, List.length_map]
  simp only [show Nat.beq 1 1 = true from rfl, cond_true]
  rw [if_pos ⟨by omega, by omega, by omega⟩]
  simp only [Int.toNat_natCast]
  rw [← List.map_drop, List.take_of_length_le (by simp)]
/-- The coder reads: these bytes are left. -/
def Cr (m : Mem) (c : Nat) (l : List Nat) : Prop := m[c]? = some (.var 71 [byV l, .bool true])
/-- All stays but the coder and the target. -/
def K2 (c q : Nat) (m m' : Mem) : Prop := m.length ≤ m'.length ∧ ∀ k b, k ≠ c → k ≠ q → m[k]? = some b → m'[k]? = some b
theorem K2.refl (c q : Nat) (m : Mem) : K2 c q m m := ⟨Nat.le_refl _, fun _ _ _ _ h => h⟩
theorem K2.trans {c q : Nat} {m m' m'' : Mem} (h : K2 c q m m') (g : K2 c q m' m'') : K2 c q m m'' := ⟨Nat.le_trans h.1 g.1, fun k b h1 h2 h3 => g.2 k b h1 h2 (h.2 k b h1 h2 h3)⟩
def wrongV : V := .ifc 62 (.agg [])
def RN (c q ty o n : Nat) (l : List V) (rest : List Nat) (m : Mem) (r : CR) : Prop :=
  (n ≤ rest.length ∧ ∃ m', r = .ret (.tup []) m' ∧ K2 c q m m' ∧ Cr m' c (rest.drop n) ∧ m'[q]? = some (.var ty (l.set o (.int .u64 (beV (rest.take n) : Int))))) ∨ (rest.length < n ∧ ∃ m', r = .pan wrongV m' ∧ K2 c q m m' ∧ m'[q]? = some (.var ty l))
def loop31r (c q o n : Nat) (s : List Nat) (j : Nat) : List (Nat × V) := [(30, .int .i64 (n : Int)), (29, byV s), (1, .ptr q o), (31, .int .i64 (j : Int)), (0, .ptr c 0), (2, .int .i64 (n : Int))]
set_option maxHeartbeats 1000000 in
theorem snd31r {m : Mem} {c q ty o n : Nat} {l : List V} {rest : List Nat} {a : Int} (hc : Cr m c rest) (hq : m[q]? = some (.var ty l)) (hqc : q ≠ c) (ho : l[o]? = some (.int .u64 a)) (hb : ∀ b ∈ rest, b < 256) (hL : rest.length < 281474976710656) (h0 : 0 < n) (hn : n ≤ 8) :
    Snd Try.prog 31 [.ptr c 0, .ptr q o, .int .i64 (n : Int)] m (RN c q ty o n l rest m) := by
  refine Snd_of_W fol rfl rfl (by kernel_rfl) (by kernel_rfl) ?_
  have hol : o < l.length := (List.getElem?_eq_some_iff.1 ho).1
  have hc' : m[c]? = some (.var 71 [byV rest, .bool true]) := hc
  have lnr : ∀ M, lenV Try.prog M 34 (byV rest) = some (.int .i64 (rest.length : Int)) := fun M => by unfold byV; rw [lni34, List.length_map]
  have hnn : ∀ k o, nonnil (.ptr k o) = true := fun _ _ => rfl
  have lt1 : decide ((rest.length : Int) < (n : Int)) = decide (rest.length < n) := by rw [Bool.eq_iff_iff]; simp
  cases e : decide (rest.length < n)
  rotate_left
  · have b62 : buildV Try.prog 62 [] = some (.agg []) := by kernel_rfl
    simp -implicitDefEqProofs only [sims.1, fx.1, keeps.1, tick_on, faddrK, nonnil, Nat.reduceEqDiff, hc', lnr, lt1, e]
    exact .inr ⟨of_decide_eq_true e, m, rfl, K2.refl _ _ _, hq⟩
  have hle : n ≤ rest.length := by have := of_decide_eq_false e; omega
  have hM : (m.set q (.var ty (l.set o (.int .u64 0))))[c]? = some (.var 71 [byV rest, .bool true]) := by rw [List.getElem?_set_ne hqc]; exact hc'
  have lns : ∀ M, lenV Try.prog M 34 (byV (rest.take n)) = some (.int .i64 (n : Int)) := fun M => by unfold byV; rw [lni34, List.length_map, List.length_take, Nat.min_eq_left hle]
  have hlen : (rest.take n).length = n := by rw [List.length_take, Nat.min_eq_left hle]
  simp -implicitDefEqProofs only [sims.1, fx.1, keeps.1, tick_on, faddrK, nonnil, Nat.reduceEqDiff, hc', hM, lnr, lt1, e, hq, hol, sl34hi hle, lns]
  refine W_loopM (loop31r c q o n (rest.take n)) (fun j M => j ≤ n ∧ K2 c q m M ∧ M[c]? = some (.var 71 [byV rest, .bool true]) ∧ M[q]? = some (.var ty (l.set o (.int .u64 (beV (rest.take j) : Int))))) (fun j => n + 1 - j) 0
    (Eq.trans (b := [(30, .int .i64 (n : Int)), (29, byV (rest.take n)), (1, .ptr q o), (31, .int .i64 0), (0, .ptr c 0), (2, .int .i64 (n : Int))]) (by kernel_rfl) (by simp [loop31r])) ⟨by omega, ⟨by simp, fun k b h1 h2 h3 => by rw [List.getElem?_set_ne fun h => h2 h.symm]; exact h3⟩, hM, by rw [List.getElem?_set_self (List.getElem?_eq_some_iff.1 hq).1]; rfl⟩ ?_
  rintro j M ⟨h1, h2, h3, h4⟩
  rcases Nat.lt_or_ge j n with hj | hj
  · have c1 : decide ((j : Int) < (n : Int)) = true := by simpa using hj
    have hr : j < rest.length := by omega
    have hjl : j < (rest.take n).length := by omega
    have gt : (rest.take n)[j] = rest[j] := List.getElem_take
    have ia : ∀ {kk : IntKind}, iaddrS 1 (byV (rest.take n)) (.int kk (j : Int)) = some (.ip (byC rest[j])) := fun {kk} => iaddrS_isl (by simp [hj, hr])
    have hbj : rest[j] < 256 := hb _ (List.getElem_mem hr)
    have hv : beV (rest.take j) < 72057594037927936 := Nat.lt_of_lt_of_le (beV_lt hb j) (by
      have : 256 ^ j ≤ 256 ^ 7 := Nat.pow_le_pow_right (by omega) (by omega)
      exact this)
    have w1 := shl8 _ hv
    have w2 := or8 _ _ hv hbj
    have w3 := wrapU rest[j] (by omega)
    have w4 : IntKind.i64.wrap ((j : Int) + 1) = ((j + 1 : Nat) : Int) := by rw [IntKind.wrap_i64]; omega
    have b0 : (byC rest[j])[0]? = some (.int .u8 (rest[j] : Int)) := rfl
    have sl : ∀ v : V, (l.set o v).length = l.length := fun v => by simp
    have ss : ∀ u v : V, (l.set o u).set o v = l.set o v := fun u v => by simp
    have sg : ∀ v : V, (l.set o v)[o]? = some v := fun v => List.getElem?_set_self hol
    have hqM := (List.getElem?_eq_some_iff.1 h4).1
    simp -implicitDefEqProofs only [sims.1, fx.1, keeps.1, tick_on, nonnil, b_shl, Nat.reduceEqDiff, Int.reduceLT, Int.reduceToNat, loop31r, c1, ia, b0, h4, hol, ss, sg, w1, w2, w3, w4]
    refine ⟨j + 1, by kernel_rfl, ⟨by omega, h2.trans ⟨by simp, fun k b g1 g2 g3 => by rw [List.getElem?_set_ne fun h => g2 h.symm]; exact g3⟩, by rw [List.getElem?_set_ne hqc]; exact h3, ?_⟩, by omega⟩
    rw [List.getElem?_set_self hqM, beV_take hr]
  · obtain rfl : j = n := by omega
    have c1 : decide ((j : Int) < (j : Int)) = false := by simp
    have hcM := (List.getElem?_eq_some_iff.1 h3).1
    have sB : storeK 1 M (.ptr c 0) (byV (rest.drop j)) = some (M.set c (.var 71 [byV (rest.drop j), .bool true])) := by
      rw [storeK_one rfl, h3]
      rfl
    simp -implicitDefEqProofs only [sims.1, fx.1, keeps.1, tick_on, faddrK, nonnil, Nat.reduceEqDiff, loop31r, c1, h3, sl34lo hle, sB]
    refine .inl ⟨hle, _, rfl, h2.trans ⟨by simp, fun k b g1 g2 g3 => by rw [List.getElem?_set_ne fun h => g1 h.symm]; exact g3⟩, ?_, ?_⟩
    · unfold Cr
      rw [List.getElem?_set_self hcM]
    · rw [List.getElem?_set_ne fun h => hqc h.symm]
      exact h4
end Go.Proofs.Ytjjenpdjmcmgbaa
