/- Code that runs in a round of a range over a function. No condition. -/
import Derived.Test.YtggdnepfahknbaaAm9
import Derived.OrdersIn
import Derived.LoopNIn
import Derived.TacticsIn
import Derived.RangeFuncKeeps
import Derived.RangeFuncLeaves
import Derived.RangeFuncBound
import Derived.RangeFuncCalls
namespace Go.Proofs.Ytggdnepfahknbaa.Ab
open Go
set_option linter.unusedSimpArgs false
set_option linter.unusedVariables false

section
variable {P : Program}
theorem noDefB_at {ops : Array Oper} (h : noDefB ops = true) {o : Oper} (ho : o ∈ ops.toList) : ∀ c, o.op ≠ .defer c := by
  intro c e
  unfold noDefB at h
  rw [List.all_eq_true] at h
  have := h o ho
  rw [e] at this
  cases this
theorem op_in {l n : Nat} {o : Oper} {a : Act} {w : World} {K K' : Act → World → Prop} {Q : Exit → Act → World → Prop} (hd : ∀ c, o.op ≠ .defer c) (hK : ∀ a w, K a w → K' a w) (h : o.wp P a w K Q) : o.wpIn (Fence.wide.inRound l) n P a w K' Q := by
  unfold Oper.wpIn
  refine ⟨fun _ _ => trivial, ?_⟩
  rw [Oper.semAt_eq _ _ _ hd]
  unfold Oper.wp at h
  generalize (execOp a.eval o).run P w = r at h ⊢
  cases r with
  | ok x w' =>
    cases x with
    | value v => exact hK _ _ h
    | skip => exact hK _ _ h
    | defer d => exact hK _ _ h
    | enter f args =>
      refine ⟨fun hh => (by cases hh), CallsIn.inRound l (callsIn_wide.2 (Calls.mono h fun e w'' he => ?_))⟩
      cases e <;> first | exact hK _ _ he | exact he
    | row r args =>
      refine ⟨fun hh => (by cases hh), fun c cs _ => ?_⟩
      obtain ⟨v, w2, h1, h2⟩ := h c cs
      exact ⟨v, w2, hK _ _ h1, stepsIn_wide.2 h2⟩
    | _ => exact h.elim
  | halt x w' => cases x <;> exact h
theorem list_in {l n : Nat} {ops : Array Oper} {Q : Exit → Act → World → Prop} (hq : ¬ LetsOut Q) : ∀ (os : List Oper) (a : Act) (w : World), (∀ o ∈ os, ∀ c, o.op ≠ .defer c) → wpList P ops Q os a w → wpListIn (Fence.wide.inRound l) n P ops Q os a w
  | [], _, _, _, h => h
  | o :: r, a, w, hd, h => by
    unfold wpList at h
    unfold wpListIn
    split
    · rename_i hw
      rw [if_pos hw] at h
      rcases h with h | h
      · exact op_in (hd o (by simp)) (fun a w h => list_in hq r a w (fun o ho => hd o (by simp [ho])) h) h
      · exact absurd h.2 hq
    · rename_i hw
      rw [if_neg hw] at h
      exact ⟨fun _ _ => trivial, list_in hq r _ _ (fun o ho => hd o (by simp [ho])) h⟩
theorem any_in {l n : Nat} {ops : Array Oper} {Q : Exit → Act → World → Prop} (hq : ¬ LetsOut Q) (hd : ∀ o ∈ ops.toList, ∀ c, o.op ≠ .defer c) : ∀ (fuel : Nat) (listed : Array Bool) (a : Act) (w : World), wpAny P .any ops Q fuel listed a w → wpAnyIn (Fence.wide.inRound l) n P .any ops Q fuel listed a w
  | 0, _, _, _, h => h
  | fuel + 1, listed, a, w, h => by
    refine ⟨h.1, fun i hi => ?_⟩
    have h2 := h.2 i hi
    unfold wpOp at h2
    unfold wpOpIn
    split
    · rename_i ho
      rw [ho] at h2
      exact any_in hq hd fuel _ _ _ h2
    · rename_i o ho
      rw [ho] at h2
      simp only at h2
      have hm : o ∈ ops.toList := by rw [← Array.getElem?_toList] at ho; exact List.mem_of_getElem? ho
      split
      · rename_i hw
        rw [if_pos hw] at h2
        rcases h2 with h2 | h2
        · exact op_in (hd o hm) (fun a w h => any_in hq hd fuel _ a w h) h2
        · exact absurd h2.2 hq
      · rename_i hw
        rw [if_neg hw] at h2
        exact ⟨fun _ _ => trivial, any_in hq hd fuel _ _ _ h2⟩
theorem rounds_in {l n : Nat} {c : Code} {Q : Exit → Act → World → Prop} : ∀ (k : Nat) (a : Act) (w : World), roundsX (fun c Q a w => c.wpIn (Fence.wide.inRound l) n P Q a w) c Q k a w → Code.roundsIn (Fence.wide.inRound l) n P c Q k a w
  | 0, _, _, h => h
  | k + 1, a, w, h => by
    rw [roundsIn_succ]
    refine wpIn_mono h fun e a w h => ?_
    cases e <;> first | exact rounds_in k a w h | exact h
/-- A walk of code that runs in a round. -/
theorem inWalk (hfol : P.follows .mixedOrders = true) (l n : Nat) : Walk P false (fun c Q a w => c.wpIn (Fence.wide.inRound l) n P Q a w) where
  skip h := wpIn_skip h
  label h := wpIn_label h
  exit h := wpIn_exit h
  ret h := wpIn_ret h
  mono h hq := wpIn_mono h hq
  seq h := wpIn_seq h
  cond hc h1 h2 := wpIn_cond_split hc h1 h2
  block h := wpIn_block h
  loop k h := wpIn_loop_rounds k (rounds_in k _ _ h)
  scope hs _ := by cases hs
  list hs hq h := wpIn_region_list (list_in hq _ _ _ (fun o ho => noDefB_at hs ho) h)
  any hs hq h := wpIn_region_any hfol (any_in hq (fun o ho => noDefB_at hs ho) _ _ _ _ h)

/-- A block that nobody owns and nobody reads is turned. -/
structure Turn (l : Nat) (w w' : World) : Prop where
  os : w'.os = w.os
  tape : w'.tape = w.tape
  output : w'.output = w.output
  size : w'.heap.size = w.heap.size
  same : ∀ k : Nat, k ≠ l → w'.heap[k]? = w.heap[k]?
  nc : ∀ c ty fr, w.heap[l]? ≠ some (.cells c ty fr)
theorem Turn.put {l : Nat} {w : World} {o o' : Obj} (h : w.heap[l]? = some o) (hc : ∀ c ty fr, o ≠ .cells c ty fr) : Turn l w (w.putObj l o') :=
  ⟨rfl, rfl, rfl, by simp, fun k hk => World.putObj_heap_other hk, fun c ty fr e => by rw [h] at e; exact hc c ty fr (Option.some.inj e)⟩
section
variable {ρ : Pl} {I : Nat → Prop} {m : Mem} {w w' : World} {l : Nat}
theorem Keeps.turn {N : Nat} (ht : Turn l w w') (hI : ¬ I l) : Keeps N ρ I w N ρ I w' :=
  ⟨Nat.le_refl _, fun _ _ => rfl, fun _ h => h, fun b hb => ht.same b (fun e => hI (e ▸ hb)), fun b c ty hb => by
    by_cases e : b = l
    · subst e; exact absurd hb (ht.nc _ _ _)
    · exact ⟨c, by rw [ht.same b e]; exact hb, rfl⟩⟩
theorem Rep.turn (hr : Rep ρ I m w) (ht : Turn l w w') (hI : ¬ I l) (hO : ¬ Own ρ m l) : Rep ρ I m w' := by
  refine ⟨fun n b hb => ?_, hr.notI, hr.inj, fun b hb => by rw [ht.size]; exact hr.ilt b hb⟩
  by_cases hl : b.live = true
  · exact (hr.blk n b hb).keep (Keeps.turn ht hI) (ht.same _ fun e => hO ⟨n, ⟨b, hb, hl⟩, e⟩)
  · cases b <;> first | trivial | exact absurd rfl hl
theorem Fr.turn {K : Nat} {ρ0 : Pl} {I0 : Nat → Prop} {m0 : Mem} {w0 : World} (h : Fr K ρ0 I0 m0 w0 ρ I m w) (ht : Turn l w w') (hl : w0.heap.size ≤ l) (h0 : ∀ b, I0 b → b < w0.heap.size) : Fr K ρ0 I0 m0 w0 ρ I m w' where
  len := h.len
  rho := h.rho
  dead := h.dead
  iSub := h.iSub
  iNew := h.iNew
  own := h.own
  wle := ⟨ht.os.trans h.wle.os, ht.tape.trans h.wle.tape, ht.output.trans h.wle.output, by rw [ht.size]; exact h.wle.size, fun b hb => by
      rw [ht.same b (fun e => by have := h0 b hb; omega)]; exact h.wle.imm b hb, fun b c ty hb => by
      obtain ⟨c1, k1, k2⟩ := h.wle.cells b c ty hb
      by_cases e : b = l
      · subst e; exact absurd k1 (ht.nc _ _ _)
      · exact ⟨c1, by rw [ht.same b e]; exact k1, k2⟩⟩
  frame b hb ho := by rw [ht.same b (fun e => by omega)]; exact h.frame b hb ho
end

/-- An iterator that goes through a boxed slice from its end. -/
def IterBack (P : Program) (gf : FuncId) (tS : TypeId) (sz : Nat) : Prop :=
  ∀ (nn l B n : Nat) (J : Nat → World → Prop), n < 9223372036854775807 →
    (∀ j W, J j W → ∃ a cap, W.heap[B]? = some (.cells #[.slice a n cap] tS (0, 0)) ∧ (n = 0 ∨ ∃ b o c ty fr, a = some ⟨b, o, none⟩ ∧ W.heap[b]? = some (.cells c ty fr) ∧ o + n * sz ≤ c.size)) →
    (∀ j W a cap b o c ty fr, j < n → J j W → W.heap[B]? = some (.cells #[.slice a n cap] tS (0, 0)) → a = some ⟨b, o, none⟩ → W.heap[b]? = some (.cells c ty fr) → o + n * sz ≤ c.size →
      YieldAt Fence.wide nn P l #[.int .i64 ((n - 1 - j : Nat) : Int), .agg (c.extract (o + (n - 1 - j) * sz) (o + (n - 1 - j) * sz + sz))] W fun e W' => e = .returned (.bool true) ∧ J (j + 1) W') →
    ∀ W, J 0 W → CallsIn Fence.wide nn P gf #[.func (.yield l) #[] #[], .pointer (some ⟨B, 0, none⟩)] W fun e W' => (∃ v, e = .returned v) ∧ J n W'

def putPs (env : Env) : List Nat → List V → Env
  | p :: ps, v :: vs => putPs (put env (some p) v) ps vs
  | _, _ => env
/-- A range over such an iterator: an invariant of memory, one round. -/
def RFW (P : Program) (nt : Nat) (g : Operand) (ps : Array Tmp) (assign body : Code) (env : Env) (m : Mem) (K : Mem → Prop) : Prop :=
  ∃ (gf k tS sz : Nat) (es : List (List V)) (p0 p1 : Nat) (Inv : Nat → Mem → Prop), evO env g = .fn gf [] [.ptr k 0] ∧ IterBack P gf tS sz ∧ enterable P gf = true ∧ ps = #[p0, p1] ∧ p0 < nt ∧ p1 < nt ∧ es.length < 9223372036854775807 ∧ 0 < sz ∧ m[k]? = some (.var tS [.isl sz es]) ∧ (∀ e ∈ es, e.length = sz) ∧
    (codeOk nt assign && (codeOk nt body && (noSc assign && noSc body))) = true ∧ Inv 0 m ∧ (∀ j m', Inv j m' → m'[k]? = some (.var tS [.isl sz es])) ∧
    (∀ j m', j < es.length → Inv j m' → m.length ≤ m'.length → ∃ e, es[es.length - 1 - j]? = some e ∧
      W P m.length [] assign (fun _ => []) [] (putPs env [p0, p1] [.int .i64 ((es.length - 1 - j : Nat) : Int), .agg e]) m' fun ex e2 m2 => match ex with
        | .nrm => W P m.length [] body (fun _ => []) [] e2 m2 fun ex e3 m3 => match ex with
          | .nrm => Inv (j + 1) m3
          | _ => False
        | _ => False) ∧
    ∀ m', Inv es.length m' → K m'

theorem Rcc.bound {N : Nat} {ρ : Pl} {I : Nat → Prop} {w : World} {es : List (List V)} {c : Array Value} {o sz : Nat} (h : Rcc N ρ I w es c o sz) (hs : 0 < sz) : es = [] ∨ o + es.length * sz ≤ c.size := by
  rcases Nat.eq_zero_or_pos es.length with h0 | h0
  · exact .inl (List.length_eq_zero_iff.1 h0)
  · refine .inr ?_
    obtain ⟨h1, h2⟩ := h.get (es.length - 1) es[es.length - 1] (List.getElem?_eq_getElem (by omega))
    rcases h2.bound with h3 | h3
    · rw [h3] at h1; simp at h1; omega
    · have : (es.length - 1 + 1) * sz = es.length * sz := by congr 1; omega
      rw [Nat.add_mul] at this
      omega
theorem enters_call {f : FuncId} (h2 : enterable P f = true) (args : Array Value) (w : World) : (callFunc f args).run P w = .ok (.enter f args) w := by
  unfold enterable at h2
  split at h2
  · rename_i fn hfn
    simp only [Bool.and_eq_true, Bool.not_eq_true'] at h2
    have hb : ¬ fn.body = none := fun e => by simp [e] at h2
    have hn : ¬ (fn.name = "runtime.NumGoroutine") := by simpa using h2.2
    simp [callFunc, hfn, hb, hn]
  · cases h2
theorem REnv.setPs {N nt : Nat} {ρ : Pl} {I : Nat → Prop} {w : World} {env : Env} {a : Act} {p0 p1 : Nat} {v0 v1 : V} {x0 x1 : Value} (he : REnv N ρ I w env a) (hs : a.tmps.size = nt) (hp0 : p0 < nt) (hp1 : p1 < nt) (h0 : RV N ρ I w v0 x0) (h1 : RV N ρ I w v1 x1) :
    REnv N ρ I w (putPs env [p0, p1] [v0, v1]) { tmps := ((#[p0, p1] : Array Tmp).zip #[x0, x1]).foldl (fun t (p, v) => t.setIfInBounds p v) a.tmps, defers := [] } := by
  have e1 := (he.put (d := some p0) (v := v0) (x := x0) h0 (fun k hk => by cases hk; omega))
  have e2 := (e1.put (d := some p1) (v := v1) (x := x1) h1 (fun k hk => by cases hk; simp [Act.put, hs]; omega))
  intro t
  have := e2 t
  simpa [putPs, Act.put] using this

theorem rf_sound (hfol : P.follows .mixedOrders = true) {nn nt : Nat} {g : Operand} {ps : Array Tmp} {assign body : Code} {env : Env} {m : Mem} {K : Mem → Prop} (h : RFW P nt g ps assign body env m K) {ρ : Pl} {I : Nat → Prop} {w : World} {a : Act}
    (hr : Rep ρ I m w) (he : REnv m.length ρ I w env a) (hs : a.tmps.size = nt) {Q : Exit → Act → World → Prop}
    (hQ : ∀ D m' ρ' I' w', K m' → Rep ρ' I' m' w' → REnv m'.length ρ' I' w' env { a with defers := { target := .collected D, args := #[] } :: a.defers } → Fr m.length ρ I m w ρ' I' m' w' → w.heap.size ≤ D → w'.heap[D]? = some (.deferred (some [])) → ¬ I' D → ¬ Own ρ' m' D →
      Q .normal { a with defers := { target := .collected D, args := #[] } :: a.defers } w') : (Code.rangeFunc g ps assign body).wpIn Fence.wide nn P Q a w := by
  obtain ⟨gf, k, tS, sz, es, p0, p1, Inv, hg, hit, hent, rfl, hp0, hp1, hn, hsz0, hk, hez, hok, hI0, hInv, hstep, hfin⟩ := h
  simp only [Bool.and_eq_true] at hok
  obtain ⟨hok1, hok2, hok3, hok4⟩ := hok
  have hgv := he.evO g
  rw [hg] at hgv
  simp only [RV] at hgv
  obtain ⟨fa, fb, hgx, f1, _, f3, f4⟩ := hgv
  obtain rfl : fa = #[] := Array.eq_empty_of_size_eq_zero (by simpa using f1.symm)
  simp only [Rt, Nat.zero_add, and_true] at f4
  obtain ⟨x, hx, hxr⟩ := f4
  simp only [RV] at hxr
  obtain ⟨hkN, rfl⟩ := hxr
  have hk2 : (ρ k).2 = 0 := (hr.blk k _ hk).1
  obtain rfl : fb = #[.pointer (some ⟨(ρ k).1, 0, none⟩)] := by
    have h1 : fb.size = 1 := by simpa using f3.symm
    apply Array.ext
    · simp [h1]
    · intro i hi1 hi2
      obtain rfl : i = 0 := by omega
      rw [Array.getElem?_eq_getElem hi1] at hx
      rw [Option.some.inj hx, hk2]
      rfl
  have hk0 : k < m.length := (List.getElem?_eq_some_iff.1 hk).1
  have hklive : live m k := ⟨_, hk, rfl⟩
  refine wpIn_rangeFunc ?_
  intro fn hfn
  obtain ⟨rec, hrec⟩ : ∃ rec : LoopState → Option Code → Loop, rec = fun st pe => { state := st, pending := pe, fn, tmps := a.tmps, params := #[p0, p1], assign, body, defers := w.heap.size } := ⟨_, rfl⟩
  obtain ⟨W1, hW1⟩ : ∃ W1, (w.alloc (.deferred (some []))).alloc (.loop (rec .ready none)) = W1 := ⟨_, rfl⟩
  have hL1 : W1.heap[w.heap.size + 1]? = some (.loop (rec .ready none)) := by
    rw [← hW1]; have := World.alloc_heap_new (w.alloc (.deferred (some []))) (.loop (rec .ready none)); rwa [World.size_alloc] at this
  have hK1 : W1.heap[w.heap.size]? = some (.deferred (some [])) := by
    rw [← hW1, heap_push_lt _ _ (by simp)]; exact World.alloc_heap_new w _
  obtain ⟨r1, s1⟩ := hr.beside (.deferred (some []))
  obtain ⟨r2, s2⟩ := r1.beside (.loop (rec .ready none))
  rw [hW1] at r2 s2
  have hf1 : Fr m.length ρ I m w ρ I m W1 := (s1.trans s2).fr (Nat.le_refl _)
  have hnI : ∀ b, w.heap.size ≤ b → ¬ I b := fun b hb hi => by have := hr.ilt b hi; omega
  have hnO : ∀ b, w.heap.size ≤ b → ¬ Own ρ m b := fun b hb ⟨n, hl, e⟩ => by have := hr.live_lt hl; omega
  let J : Nat → World → Prop := fun j W => ∃ (ρ' : Pl) (I' : Nat → Prop) (m' : Mem), Inv j m' ∧ Rep ρ' I' m' W ∧ Fr m.length ρ I m w ρ' I' m' W ∧ W.heap[w.heap.size + 1]? = some (.loop (rec .ready none)) ∧ W.heap[w.heap.size]? = some (.deferred (some [])) ∧
    (¬ I' w.heap.size ∧ ¬ Own ρ' m' w.heap.size) ∧ (¬ I' (w.heap.size + 1) ∧ ¬ Own ρ' m' (w.heap.size + 1))
  have hread : ∀ (ρ' : Pl) (I' : Nat → Prop) (m' : Mem) (W : World) j, Inv j m' → Rep ρ' I' m' W → Fr m.length ρ I m w ρ' I' m' W → ∃ a cap, W.heap[(ρ k).1]? = some (.cells #[.slice a es.length cap] tS (0, 0)) ∧ (es = [] ∨ ∃ b o c ty fr, a = some ⟨b, o, none⟩ ∧ I' b ∧ W.heap[b]? = some (.cells c ty fr) ∧ Rcc m'.length ρ' I' W es c o sz) := by
    intro ρ' I' m' W j hi hr' hf'
    obtain ⟨_, c, c1, c2, c3⟩ := hr'.blk k _ (hInv j m' hi)
    rw [hf'.rho k hk0] at c1
    simp only [Rc, and_true] at c3
    obtain ⟨y, y1, _, y2⟩ := c3
    simp only [RV] at y2
    obtain ⟨aa, cap, rfl, _, y3⟩ := y2
    refine ⟨aa, cap, ?_, y3⟩
    rw [c1]
    congr 2
    apply Array.ext
    · simpa using c2
    · intro i h1 h2
      obtain rfl : i = 0 := by simp at h2; omega
      rw [Array.getElem?_eq_getElem h1] at y1
      exact Option.some.inj y1
  refine ⟨w.heap.size + 1, [{ target := .collected w.heap.size, args := #[] }], W1, { target := .fn (.func gf) #[.pointer (some ⟨(ρ k).1, 0, none⟩)], args := #[.func (.yield (w.heap.size + 1)) #[] #[]] }, W1, gf,
    #[.func (.yield (w.heap.size + 1)) #[] #[], .pointer (some ⟨(ρ k).1, 0, none⟩)], W1, ?_, ?_, fun _ _ => trivial, ?_, fun hh => (by cases hh), ?_⟩
  · rw [← hW1, hrec]; exact run_enterLoop_outer _ _ _ _ _
  · simp only [resolve, hgx]
    simp [go_sem]
  · simp [invoke, go_sem, enters_call hent]
  · refine (hit (nn - 1) (w.heap.size + 1) (ρ k).1 es.length J hn ?_ ?_ W1 ⟨ρ, I, m, hI0, r2, hf1, hL1, hK1, ⟨hnI _ (Nat.le_refl _), hnO _ (Nat.le_refl _)⟩, hnI _ (by omega), hnO _ (by omega)⟩).mono ?_
    · rintro j W ⟨ρ', I', m', hi, hr', hf', _⟩
      obtain ⟨aa, cap, q1, q2⟩ := hread ρ' I' m' W j hi hr' hf'
      refine ⟨aa, cap, q1, ?_⟩
      rcases q2 with q2 | ⟨b, o, c, ty, fr, e1, _, e3, e4⟩
      · exact .inl (by rw [q2]; rfl)
      · rcases e4.bound hsz0 with hb | hb
        · exact .inl (by rw [hb]; rfl)
        · exact .inr ⟨b, o, c, ty, fr, e1, e3, hb⟩
    · rintro j W aa cap b o c ty fr hj ⟨ρ', I', m', hi, hr', hf', hl, hd, ⟨hd1, hd2⟩, hl1, hl2⟩ b1 b2 b3 b4
      obtain ⟨aa', cap', q1, q2⟩ := hread ρ' I' m' W j hi hr' hf'
      rw [b1] at q1
      cases q1
      rcases q2 with q2 | ⟨b', o', c', ty', fr', e1, e2, e3, e4⟩
      · rw [q2] at hj; simp at hj
      rw [b2] at e1
      cases e1
      rw [b3] at e3
      cases e3
      have hlt : w.heap.size + 1 < W.heap.size := (Array.getElem?_eq_some_iff.1 hl).1
      obtain ⟨e, hee, hwa⟩ := hstep j m' hj hi hf'.len
      obtain ⟨z1, z2⟩ := e4.get _ _ hee
      have hy := run_yield (P := P) (args := #[.int .i64 ((es.length - 1 - j : Nat) : Int), .agg (c.extract (o + (es.length - 1 - j) * sz) (o + (es.length - 1 - j) * sz + sz))]) hl (by rw [hrec]; rfl)
      rw [hrec] at hy
      refine ⟨fn, _, assign, body, hy, roundIn_of_wpIn hfn ?_⟩
      have hle : o + (es.length - 1 - j) * sz + sz ≤ c.size := by
        have : (es.length - 1 - j + 1) * sz ≤ es.length * sz := Nat.mul_le_mul_right _ (by omega)
        rw [Nat.add_mul] at this
        omega
      have hva : RV m'.length ρ' I' W (.agg e) (.agg (c.extract (o + (es.length - 1 - j) * sz) (o + (es.length - 1 - j) * sz + sz))) := by
        simp only [RV]
        refine ⟨_, rfl, by simp [z1]; omega, Rc.mk fun i v hv => ?_⟩
        obtain ⟨y, y1, y2, y3⟩ := z2.get i v hv
        have hil := (List.getElem?_eq_some_iff.1 hv).1
        refine ⟨y, ?_, y2, y3⟩
        rw [Nat.zero_add, Array.getElem?_extract, if_pos (by omega)]
        exact y1
      have hke : Keeps m.length ρ I w m'.length ρ' I' W := (hf'.keeps)
      have hen := REnv.setPs (v0 := .int .i64 ((es.length - 1 - j : Nat) : Int)) (v1 := .agg e) (x0 := .int .i64 ((es.length - 1 - j : Nat) : Int)) (he.keep hke) hs hp0 hp1 (by simp only [RV]) hva
      refine wpIn_mono (W_soundX (K0 := m.length) (R := []) (nt := nt) (ds := []) (inWalk hfol (w.heap.size + 1) (nn - 1)) assign hok1 (by rw [hok3]; rfl) _ _ _ _ _ hwa ρ' I' _ W hr' hen (by simp [hs]) rfl hf'.len) ?_
      rintro e1' a2 W2 ⟨ex, env2, m2, ρ2, I2, k1, k2, k3, k4, k5, k6, k7⟩
      cases ex with
      | exit i => exact k1.elim
      | ret => exact k1.elim
      | pan v => exact k1.elim
      | nrm =>
        cases k2
        simp only [Exit.then]
        have hl' : W2.heap[w.heap.size + 1]? = some (.loop (rec .ready none)) := (k7.frame _ hlt hl2).trans hl
        have hd' : W2.heap[w.heap.size]? = some (.deferred (some [])) := (k7.frame _ (by omega) hd2).trans hd
        have hl1' : ¬ I2 (w.heap.size + 1) := fun hh => by
          rcases k7.iNew _ hh with h1 | h1 | h1
          · exact hl1 h1
          · omega
          · exact hl2 h1
        have hd1' : ¬ I2 w.heap.size := fun hh => by
          rcases k7.iNew _ hh with h1 | h1 | h1
          · exact hd1 h1
          · omega
          · exact hd2 h1
        have hl2' : ¬ Own ρ2 m2 (w.heap.size + 1) := fun hh => by
          rcases k7.own _ hh with h1 | h1
          · omega
          · exact hl2 h1
        have hd2' : ¬ Own ρ2 m2 w.heap.size := fun hh => by
          rcases k7.own _ hh with h1 | h1
          · omega
          · exact hd2 h1
        have hbr := run_beginRound (P := P) hl' (by rw [hrec])
        refine ⟨_, hbr, ?_⟩
        have ht := Turn.put (o' := .loop { rec .ready none with state := .busy }) hl' (fun c ty fr e => by cases e)
        have hlt2 : w.heap.size + 1 < W2.heap.size := (Array.getElem?_eq_some_iff.1 hl').1
        have hWl : (W2.putObj (w.heap.size + 1) (.loop { rec .ready none with state := .busy })).heap[w.heap.size + 1]? = some (.loop { rec .ready none with state := .busy }) := World.putObj_heap_same hlt2
        have hWd : (W2.putObj (w.heap.size + 1) (.loop { rec .ready none with state := .busy })).heap[w.heap.size]? = some (.deferred (some [])) := (World.putObj_heap_other (by omega)).trans hd'
        generalize W2.putObj (w.heap.size + 1) (.loop { rec .ready none with state := .busy }) = Wb at ht hWl hWd ⊢
        have r3 := k3.turn ht hl1' hl2'
        have f3 := hf'.trans k7
        have f3' := f3.turn ht (by omega) hr.ilt
        have en3 := k4.keep (Keeps.turn ht hl1')
        refine wpIn_mono (W_soundX (K0 := m.length) (R := []) (nt := nt) (ds := []) (inWalk hfol (w.heap.size + 1) (nn - 1)) body hok2 (by rw [hok4]; rfl) _ _ _ _ _ k1 ρ2 I2 _ _ r3 en3 k5 k6 k7.len) ?_
        rintro e3' a3 W3 ⟨ex, env3, m3, ρ3, I3, v1, v2, v3, v4, v5, v6, v7⟩
        cases ex with
        | exit i => exact v1.elim
        | ret => exact v1.elim
        | pan v => exact v1.elim
        | nrm =>
          cases v2
          have hsz2 : Wb.heap.size = W2.heap.size := ht.size
          have hl'' : W3.heap[w.heap.size + 1]? = some (.loop { rec .ready none with state := .busy }) := (v7.frame _ (by omega) hl2').trans hWl
          have hd'' : W3.heap[w.heap.size]? = some (.deferred (some [])) := (v7.frame _ (by omega) hd2').trans hWd
          have hl1'' : ¬ I3 (w.heap.size + 1) := fun hh => by
            rcases v7.iNew _ hh with h1 | h1 | h1
            · exact hl1' h1
            · omega
            · exact hl2' h1
          have hd1'' : ¬ I3 w.heap.size := fun hh => by
            rcases v7.iNew _ hh with h1 | h1 | h1
            · exact hd1' h1
            · omega
            · exact hd2' h1
          have hl2'' : ¬ Own ρ3 m3 (w.heap.size + 1) := fun hh => by
            rcases v7.own _ hh with h1 | h1
            · omega
            · exact hl2' h1
          have hd2'' : ¬ Own ρ3 m3 w.heap.size := fun hh => by
            rcases v7.own _ hh with h1 | h1
            · omega
            · exact hd2' h1
          have her := run_endRound (P := P) none hl''
          have ht2 := Turn.put (o' := .loop (rec .ready none)) hl'' (fun c ty fr e => by cases e)
          have hlt3 : w.heap.size + 1 < W3.heap.size := (Array.getElem?_eq_some_iff.1 hl'').1
          refine ⟨.bool true, W3.putObj (w.heap.size + 1) (.loop (rec .ready none)), ?_, rfl, ρ3, I3, m3, v1, v3.turn ht2 hl1'' hl2'', (f3'.trans v7).turn ht2 (by omega) hr.ilt, World.putObj_heap_same hlt3, (World.putObj_heap_other (by omega)).trans hd'', ⟨hd1'', hd2''⟩, hl1'', hl2''⟩
          rw [hrec] at her ⊢
          exact her
    · rintro e W2 ⟨⟨v, rfl⟩, ρ', I', m', hi, hr', hf', hl, hd, ⟨hd1, hd2⟩, hl1, hl2⟩
      have hel := run_endLoop (P := P) hl (by rw [hrec]; simp)
      have ht := Turn.put (o' := .loop { rec .ready none with state := .exhausted }) hl (fun c ty fr e => by cases e)
      have hW4 : (W2.putObj (w.heap.size + 1) (.loop { rec .ready none with state := .exhausted })).heap[w.heap.size]? = some (.deferred (some [])) := (World.putObj_heap_other (by omega)).trans hd
      generalize W2.putObj (w.heap.size + 1) (.loop { rec .ready none with state := .exhausted }) = W4 at ht hel hW4
      have hpe : (rec .ready none).pending = none := by rw [hrec]
      rw [hpe] at hel
      refine ⟨none, W4, hel, ?_⟩
      show Q .normal _ _
      exact hQ w.heap.size m' ρ' I' _ (hfin m' hi) (hr'.turn ht hl1 hl2) (fun t => (he.keep hf'.keeps).keep (Keeps.turn ht hl1) t) (hf'.turn ht (by omega) hr.ilt) (Nat.le_refl _) hW4 hd1 hd2

/-- Is there such a range, at the spine? -/
def hasR : Code → Bool
  | .seq a b => hasR a || hasR b
  | .block _ (.rangeFunc _ _ _ _) => true
  | _ => false
/-- Code with one such range, at the spine: what is to hold where it leaves ahead of the range, and behind it. -/
def WB (P : Program) (nt K0 : Nat) (R : List Nat) : Code → List Nat → Env → Mem → (Ex → Env → Mem → Prop) → (Ex → Env → Mem → Prop) → Prop
  | .seq a b, L, env, m, Q, Qr => bif hasR a then WB P nt K0 R a [] env m Q (fun ex env m => match ex with
      | .nrm => W P K0 R b (fun _ => []) L env m Qr
      | _ => Qr ex env m)
    else W P K0 R a (fun _ => []) (lv R b (fun _ => []) L) env m fun ex env m => match ex with
      | .nrm => WB P nt K0 R b L env m Q Qr
      | _ => Q ex env m
  | .block _ c, _, env, m, _, Qr => match c with
    | .rangeFunc g ps assign body => RFW P nt g ps assign body env m fun m' => Qr .nrm env m'
    | _ => False
  | _, _, _, _, _, _ => False
def okWB (nt : Nat) : Code → Bool
  | .seq a b => bif hasR a then okWB nt a && codeOk nt b else codeOk nt a && okWB nt b
  | .block _ (.rangeFunc _ _ _ _) => true
  | _ => false
/-- How code with such a range comes out: with the mark among its deferred calls, or without. -/
def Came3 (K0 nt : Nat) (ρ : Pl) (I : Nat → Prop) (m : Mem) (w : World) (Q Qr : Ex → Env → Mem → Prop) (e : Exit) (a' : Act) (w' : World) : Prop :=
  ∃ ex env' m' ρ' I' ds, ExR m'.length ρ' I' w' ex e ∧ Rep ρ' I' m' w' ∧ REnv m'.length ρ' I' w' env' a' ∧ a'.tmps.size = nt ∧ a'.defers = ds ∧ Fr K0 ρ I m w ρ' I' m' w' ∧
    ((ds = [] ∧ ex ≠ .nrm ∧ Q ex env' m') ∨ ∃ D, ds = [{ target := .collected D, args := #[] }] ∧ Qr ex env' m' ∧ w.heap.size ≤ D ∧ w'.heap[D]? = some (.deferred (some [])) ∧ ¬ I' D ∧ ¬ Own ρ' m' D)
theorem WB_sound (hfol : P.follows .mixedOrders = true) {nt K0 : Nat} {R : List Nat} : ∀ (c : Code), okWB nt c = true → ∀ (L : List Nat) (env : Env) (m : Mem) (Q Qr : Ex → Env → Mem → Prop), WB P nt K0 R c L env m Q Qr →
    ∀ (ρ : Pl) (I : Nat → Prop) (a : Act) (w : World), Rep ρ I m w → REnv m.length ρ I w env a → a.tmps.size = nt → a.defers = [] → K0 ≤ m.length → c.wp P (Came3 K0 nt ρ I m w Q Qr) a w := by
  intro c
  induction c with
  | seq x y ihx ihy =>
    intro hok L env m Q Qr h ρ I a w hr he hs hd hK
    unfold okWB at hok
    unfold WB at h
    cases hx : hasR x with
    | true =>
      rw [hx] at hok h
      simp only [cond_true, Bool.and_eq_true] at hok h
      refine wp_seq (wp_mono (ihx hok.1 _ _ _ _ _ h ρ I a w hr he hs hd hK) ?_)
      rintro e a1 w1 ⟨ex, env1, m1, ρ1, I1, ds, q2, q3, q4, q5, q6, q7, q8⟩
      cases ex with
      | nrm =>
        cases q2
        simp only [Exit.then]
        rcases q8 with ⟨_, q9, _⟩ | ⟨D, rfl, hk, hD, hDw, hDI, hDO⟩
        · exact absurd rfl q9
        refine wp_mono (W_sound (ds := [{ target := .collected D, args := #[] }]) hfol y hok.2 _ _ _ _ _ hk ρ1 I1 a1 w1 q3 q4 q5 q6 q7.len) ?_
        rintro e a2 w2 ⟨ex, env2, m2, ρ2, I2, k1, k2, k3, k4, k5, k6, k7⟩
        have hlt : D < w1.heap.size := (Array.getElem?_eq_some_iff.1 hDw).1
        refine ⟨ex, env2, m2, ρ2, I2, _, k2, k3, k4, k5, k6, q7.trans k7, .inr ⟨D, rfl, k1, hD, (k7.frame _ hlt hDO).trans hDw, fun hh => ?_, fun hh => ?_⟩⟩
        · rcases k7.iNew _ hh with h1 | h1 | h1
          · exact hDI h1
          · omega
          · exact hDO h1
        · rcases k7.own _ hh with h1 | h1
          · omega
          · exact hDO h1
      | exit i => cases q2; exact ⟨.exit i, env1, m1, ρ1, I1, ds, rfl, q3, q4, q5, q6, q7, q8⟩
      | ret => cases q2; exact ⟨.ret, env1, m1, ρ1, I1, ds, rfl, q3, q4, q5, q6, q7, q8⟩
      | pan v =>
        obtain ⟨x', rfl, q2⟩ := q2
        exact ⟨.pan v, env1, m1, ρ1, I1, ds, ⟨x', rfl, q2⟩, q3, q4, q5, q6, q7, q8⟩
    | false =>
      rw [hx] at hok h
      simp only [cond_false, Bool.and_eq_true] at hok h
      refine wp_seq (wp_mono (W_sound (ds := []) hfol x hok.1 _ _ _ _ _ h ρ I a w hr he hs hd hK) ?_)
      rintro e a1 w1 ⟨ex, env1, m1, ρ1, I1, q1, q2, q3, q4, q5, q6, q7⟩
      cases ex with
      | nrm =>
        cases q2
        simp only [Exit.then]
        refine wp_mono (ihy hok.2 _ _ _ _ _ q1 ρ1 I1 a1 w1 q3 q4 q5 q6 q7.len) ?_
        rintro e a w ⟨ex, env', m', ρ', I', ds, g2, g3, g4, g5, g6, g7, g8⟩
        refine ⟨ex, env', m', ρ', I', ds, g2, g3, g4, g5, g6, q7.trans g7, ?_⟩
        rcases g8 with g8 | ⟨D, d1, d0, d2, d3, d4, d5⟩
        · exact .inl g8
        · exact .inr ⟨D, d1, d0, by have := q7.wle.size; omega, d3, d4, d5⟩
      | exit i => cases q2; exact ⟨.exit i, env1, m1, ρ1, I1, [], rfl, q3, q4, q5, q6, q7, .inl ⟨rfl, (fun h => by cases h), q1⟩⟩
      | ret => cases q2; exact ⟨.ret, env1, m1, ρ1, I1, [], rfl, q3, q4, q5, q6, q7, .inl ⟨rfl, (fun h => by cases h), q1⟩⟩
      | pan v =>
        obtain ⟨x', rfl, q2⟩ := q2
        exact ⟨.pan v, env1, m1, ρ1, I1, [], ⟨x', rfl, q2⟩, q3, q4, q5, q6, q7, .inl ⟨rfl, (fun h => by cases h), q1⟩⟩
  | block id x _ =>
    intro hok L env m Q Qr h ρ I a w hr he hs hd hK
    cases x with
    | rangeFunc g ps assign body =>
      unfold WB at h
      simp only at h
      refine wp_block (wpIn_wide.1 (rf_sound (nn := 0) hfol h hr he hs ?_))
      intro D m' ρ' I' w' hk hr' he' hf' hD hDw hDI hDO
      exact ⟨.nrm, env, m', ρ', I', _, rfl, hr', he', hs, (by rw [hd]), hf'.weaken hK, .inr ⟨D, rfl, hk, hD, hDw, hDI, hDO⟩⟩
    | _ => unfold WB at h; exact h.elim
  | _ => intro hok; simp [okWB] at hok
theorem Snd_of_WB {f : FuncId} {fn : Func} {c : Code} (hfol : P.follows .mixedOrders = true) (hf : P.funcs[f]? = some fn) (hb : fn.body = some c) (hok : okWB fn.ntmps c = true) {vs : List V} {m : Mem} {Q : CR → Prop} (hlen : Nat.ble vs.length fn.ntmps = true)
    (h : WB P fn.ntmps m.length (resT fn) c [] (argEnv vs) m (endQ P fn Q) (endQ P fn Q)) (hnp : ∀ v m', ¬ Q (.pan v m')) : Snd P f vs m Q := by
  intro ρ I w xs hr hl hrt
  refine callsIn_wide.1 (callsIn_of_wp_marks (n := 0) hf hb trivial ?_)
  refine wpIn_wide.2 ?_
  have hsz : (xs ++ Array.replicate (fn.ntmps - xs.size) undef).size = fn.ntmps := by
    rw [Nat.ble_eq] at hlen
    simp; omega
  refine wp_mono (WB_sound hfol c hok _ _ _ _ _ h ρ I _ w hr (argEnv_sound hl hrt) hsz rfl (Nat.le_refl _)) ?_
  rintro e a' w' ⟨ex, env', m', ρ', I', ds, q2, q3, q4, q5, q6, q7, q8⟩
  have q1 : endQ P fn Q ex env' m' := by
    rcases q8 with ⟨_, _, q⟩ | ⟨_, _, q, _⟩ <;> exact q
  replace q8 : ds = [] ∨ ∃ D, ds = [{ target := .collected D, args := #[] }] ∧ w.heap.size ≤ D ∧ w'.heap[D]? = some (.deferred (some [])) ∧ ¬ I' D ∧ ¬ Own ρ' m' D := by
    rcases q8 with ⟨q, _⟩ | ⟨D, d1, _, d⟩
    · exact .inl q
    · exact .inr ⟨D, d1, d⟩
  have fin : (∃ v, resV P fn env' m' = some v ∧ Q (.ret v m')) → LeavesInM Fence.wide 0 P fn a'.tmps (fun e w' => ∃ r, Q r ∧ Post ρ I m w r e w') a'.defers .returning w' := by
    rintro ⟨v, k1, k2⟩
    rw [q6]
    rcases q8 with rfl | ⟨D, rfl, d2, d3, d4, d5⟩
    · obtain ⟨y, y1, y2⟩ := results_sound q3 q4 k1
      exact ⟨y, y1, _, k2, y, ρ', I', rfl, q3, q7.step, y2⟩
    · refine ⟨by simp, .inl ⟨_, _, rfl, run_takeDeferred d3, ?_⟩⟩
      have ht := Turn.put (o' := .deferred none) d3 (fun c ty fr e => by cases e)
      have r2 := q3.turn ht d4 d5
      have e2 := q4.keep (Keeps.turn ht d4)
      obtain ⟨y, y1, y2⟩ := results_sound r2 e2 k1
      exact ⟨y, y1, _, k2, y, ρ', I', rfl, r2, (q7.turn ht d2 hr.ilt).step, y2⟩
  cases ex with
  | nrm => cases q2; exact fin q1
  | ret => cases q2; exact fin q1
  | exit i => exact q1.elim
  | pan v =>
    exact absurd q1 (hnp _ _)
end
end Go.Proofs.Ytggdnepfahknbaa.Ab
