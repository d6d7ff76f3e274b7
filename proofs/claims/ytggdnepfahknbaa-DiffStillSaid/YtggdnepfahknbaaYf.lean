/- slices.Backward's own walk. No condition. -/
import Derived.Test.YtggdnepfahknbaaYe
import Derived.RangeFuncBox
import Derived.RangeFuncLeaves
import Derived.Shelf.Abstract
import Derived.WalkKit
import Derived.OwnWalkIn
import Derived.TacticsInMore
import Derived.LoopNIn
import Derived.LoopIn
namespace Go.Proofs.Ytggdnepfahknbaa
open Go Ab Go.RowKit Go.Shelf
set_option linter.unusedSimpArgs false
set_option linter.unusedVariables false
attribute [local go_sem] Oper.semAt_some

section
variable {nn : Nat} {P : Program} {ops : Array Oper} {Q : Exit → Go.Act → World → Prop} {a : Go.Act} {w : World} {r : List Oper} {d : Option Tmp} {ty : TypeId} {pos : String} {af : Array Edge} {k : Op}
theorem li_val (v : Value) (w' : World) (h : (execOp a.eval ⟨d, k, ty, pos, af, none⟩).run P w = .ok (.value v) w') (hd : ∀ c, k ≠ .defer c) (hn : wpListIn Fence.wide nn P ops Q r (a.put d v) w') : wpListIn Fence.wide nn P ops Q (⟨d, k, ty, pos, af, none⟩ :: r) a w := by
  unfold wpListIn
  simp only [Region.wanted, if_true]
  unfold Oper.wpIn
  refine ⟨fun _ _ => trivial, ?_⟩
  rw [Oper.semAt_eq _ _ _ hd, h]
  exact hn
theorem li_round {l : Nat} {f : FuncId} {tmps : Array Value} {assign body : Code} {w' : World} (h : (execOp a.eval ⟨d, k, ty, pos, af, none⟩).run P w = .ok (.round l f tmps assign body) w') (hd : ∀ c, k ≠ .defer c)
    (hn : RoundIn Fence.wide (nn - 1) P l f tmps assign body w' fun e w'' => ∃ v, e = .returned v ∧ wpListIn Fence.wide nn P ops Q r (a.put d v) w'') : wpListIn Fence.wide nn P ops Q (⟨d, k, ty, pos, af, none⟩ :: r) a w := by
  unfold wpListIn
  simp only [Region.wanted, if_true]
  unfold Oper.wpIn
  refine ⟨fun _ _ => trivial, ?_⟩
  rw [Oper.semAt_eq _ _ _ hd, h]
  refine ⟨fun hh => (by cases hh), hn.mono ?_⟩
  rintro e w'' ⟨v, rfl, h⟩
  exact h
end
theorem sized {t sz : Nat} (h : (Try.prog.info? t).map (fun i => i.size) = some sz) : ∃ inf, Try.prog.info? t = some inf ∧ inf.size = sz := by
  cases e : Try.prog.info? t with
  | none => rw [e] at h; cases h
  | some inf => rw [e] at h; exact ⟨inf, rfl, by simpa using h⟩
theorem ld_row {t sz : Nat} {inf : TypeInfo} {w : World} {b o : Nat} {c : Array Value} {ty : TypeId} {fr : Nat × Nat} (ha : isAggT Try.prog t = true) (hi : Try.prog.info? t = some inf) (hs : inf.size = sz) (hb : w.heap[b]? = some (.cells c ty fr)) (hsz : o + sz ≤ c.size) :
    (Instr.loadAt t (.pointer (some ⟨b, o, none⟩))).run Try.prog w = .ok (.agg (c.extract o (o + sz))) w := by
  subst hs
  have hlen : ((c.toList.drop o).take inf.size).length = inf.size := by simp; omega
  have hcells := run_loadCells_list (P := Try.prog) w ⟨b, o, none⟩ ((c.toList.drop o).take inf.size) (fun j u hu => by
    rw [Addr.add_lit, cell_at hb]
    rw [List.getElem?_take] at hu
    split at hu
    · rw [List.getElem?_drop] at hu; simpa using hu
    · cases hu)
  rw [hlen] at hcells
  have e : ((c.toList.drop o).take inf.size).toArray = c.extract o (o + inf.size) := by
    apply Array.toList_inj.1
    rw [Array.toList_extract]
    simp [List.extract, List.drop_take]
  simp [Instr.loadAt, Instr.sureAddr, loadVar, run_isAgg_true ha, sizeOf, typeInfo, hi, hcells, e]

theorem x_load {a : Go.Act} {w : World} {d : Option Tmp} {t : TypeId} {x : Operand} {ty : TypeId} {pos : String} {af : Array Edge} {v : Value} (h : (Instr.loadAt t (a.eval x)).run Try.prog w = .ok v w) : (execOp a.eval ⟨d, .load t x, ty, pos, af, none⟩).run Try.prog w = .ok (.value v) w := by
  simp [execOp, h]
theorem x_idx {a : Go.Act} {w : World} {d : Option Tmp} {t : TypeId} {x y : Operand} {ty : TypeId} {pos : String} {af : Array Edge} {v : Value} (h : (Instr.indexAt t (a.eval x) (a.eval y)).run Try.prog w = .ok v w) : (execOp a.eval ⟨d, .indexAddr t x y, ty, pos, af, none⟩).run Try.prog w = .ok (.value v) w := by
  simp [execOp, h]
theorem x_not {a : Go.Act} {w : World} {d : Option Tmp} {t : TypeId} {x : Operand} {ty : TypeId} {pos : String} {af : Array Edge} {b : Bool} (h : a.eval x = .bool b) : (execOp a.eval ⟨d, .unOp .not t x, ty, pos, af, none⟩).run Try.prog w = .ok (.value (.bool !b)) w := by
  simp [execOp, Op.unary, h]
theorem x_yield {l : Nat} {a : Go.Act} {w : World} {d : Option Tmp} {x : Operand} {args : Array Operand} {ts : Array TypeId} {ty : TypeId} {pos : String} {af : Array Edge} (h : a.eval x = .func (.yield l) #[] #[]) : (execOp a.eval ⟨d, .call ⟨.value x, args, ts⟩, ty, pos, af, none⟩).run Try.prog w = (Instr.yield l (args.map a.eval)).run Try.prog w := by
  simp [execOp, resolve, h, Deferred.ofValue, invoke]
theorem idx_row {t e : TypeId} {sz : Nat} {inf : TypeInfo} {w : World} (hu : Try.prog.underlying t = some (.slice e)) (hi : Try.prog.info? e = some inf) (hs : inf.size = sz) {b o len cap i : Nat} (h : i < len) :
    (Instr.indexAt t (.slice (some ⟨b, o, none⟩) len cap) (.int .i64 (i : Int))).run Try.prog w = .ok (.pointer (some ⟨b, o + i * sz, none⟩)) w := by
  subst hs
  simp [Instr.indexAt, asIntOf, run_underlying hu, h, sizeOf, typeInfo, hi, Addr.add_lit]
theorem ld_flat {t : TypeId} {D : TypeDesc} {w : World} {ad : Addr} {v : Value} (hd : Try.prog.underlying t = some D) (ha : isAggT Try.prog t = false) (hc : w.cell? ad = some v) :
    (Instr.loadAt t (.pointer (some ad))).run Try.prog w = .ok v w := by
  simp [Instr.loadAt, Instr.sureAddr, loadVar, run_isAgg_false hd ha, hc]

set_option maxRecDepth 100000 in
set_option maxHeartbeats 2000000 in
theorem iter35 : IterBack Try.prog 35 22 25 := by
  intro nn l B n J hn hread hround W hJ
  refine callsIn_of_wp Try.func35 rfl trivial ?_ rfl
  simp only [Try.ntmps35, List.size_toArray, List.length_cons, List.length_nil, Nat.reduceAdd, Nat.reduceSub, Array.replicate_succ, Array.replicate_zero, List.push_toArray, List.append_toArray, List.nil_append, List.cons_append]
  obtain ⟨a, cap, hB, hrow⟩ := hread 0 W hJ
  have hBs : W.cell? ⟨B, 0, none⟩ = some (.slice a n cap) := by rw [cell_at hB]; rfl
  gi_wp2
  gi_loopw [3] (fun i wr => ∃ k : Nat, k ≤ n ∧ i = .int .i64 ((n : Int) - 1 - (k : Int)) ∧ J k wr) (fun i _ => ((intOf i) + 1).toNat)
  case atStart => exact ⟨0, Nat.zero_le _, by simp, hJ⟩
  case round =>
    obtain ⟨k, hk, rfl, hJs⟩ := hrel
    obtain ⟨a', cap', hB', hrow'⟩ := hread k wr hJs
    have hBs' : wr.cell? ⟨B, 0, none⟩ = some (.slice a' n cap') := by rw [cell_at hB']; rfl
    by_cases hlt : k < n
    · rcases hrow' with h0 | ⟨b, o, c, ty, fr, rfl, hrw, hsz⟩
      · omega
      obtain ⟨fn, tmps, assign, body, hy, hR⟩ := hround k wr _ cap' b o c ty fr hlt hJs hB' rfl hrw hsz
      have hle : (n - 1 - k) * 25 + 25 ≤ n * 25 := by
        have : (n - 1 - k + 1) * 25 ≤ n * 25 := Nat.mul_le_mul_right _ (by omega)
        omega
      have hin : ((n : Int) - 1 - (k : Int)) = ((n - 1 - k : Nat) : Int) := by omega
      obtain ⟨inf, hinf, hinfs⟩ := sized (t := 36) (sz := 25) (by kernel_rfl)
      have hld := ld_row (t := 36) (sz := 25) (by kernel_rfl) hinf hinfs hrw (o := o + (n - 1 - k) * 25) (by omega)
      refine wpIn_seq (wpIn_mono (Q := fun e a1 w1 => e = .normal ∧ a1 = { tmps := #[.func (.yield l) #[] #[], .pointer (some ⟨B, 0, none⟩), undef, .int .i64 ((n : Int) - 1 - (k : Int)), .slice a n cap, .int .i64 n, .int .i64 ((n : Int) - 1), .int .i64 ((n : Int) - 1 - (k : Int)), .bool true, u9, u10, u11, u12, u13, u14, u15, u16, u17, u18], defers := [] } ∧ w1 = wr) ?_ ?_)
      · gi_wp2
      rintro e a1 w1 ⟨rfl, rfl, rfl⟩
      refine wpIn_seq (wpIn_block (wpIn_seq (wpIn_region_list ?_)))
      refine li_val (.func (.yield l) #[] #[]) w1 rfl (by simp) ?_
      refine li_val (.int .i64 ((n : Int) - 1 - (k : Int))) w1 rfl (by simp) ?_
      refine li_val (.slice (some ⟨b, o, none⟩) n cap') w1 (x_load (ld_flat (D := .slice 36) (by kernel_rfl) (by kernel_rfl) hBs')) (by simp) ?_
      refine li_val (.int .i64 ((n : Int) - 1 - (k : Int))) w1 rfl (by simp) ?_
      refine li_val (.pointer (some ⟨b, o + (n - 1 - k) * 25, none⟩)) w1 (x_idx (by rw [hin]; exact idx_row (e := 36) (by kernel_rfl) hinf hinfs (by omega))) (by simp) ?_
      refine li_val (.agg (c.extract (o + (n - 1 - k) * 25) (o + (n - 1 - k) * 25 + 25))) w1 (x_load hld) (by simp) ?_
      have hR' : RoundIn Fence.wide (nn - 1) Try.prog l fn tmps assign body w1 fun e W' => e = .returned (.bool true) ∧ J (k + 1) W' := ⟨hR.1, fun c cs _ => hR.2 c cs (fun _ h => by cases h)⟩
      clear hR hld
      rw [← hin] at hy
      generalize (Value.agg (c.extract (o + (n - 1 - k) * 25) (o + (n - 1 - k) * 25 + 25))) = X at hy ⊢
      change wpListIn _ _ _ _ _ _ { tmps := #[.func (.yield l) #[] #[], .pointer (some ⟨B, 0, none⟩), undef, .int .i64 ((n : Int) - 1 - (k : Int)), .slice a n cap, .int .i64 n, .int .i64 ((n : Int) - 1), .int .i64 ((n : Int) - 1 - (k : Int)), .bool true, u9, u10, .func (.yield l) #[] #[], .int .i64 ((n : Int) - 1 - (k : Int)), .slice (some ⟨b, o, none⟩) n cap', .int .i64 ((n : Int) - 1 - (k : Int)), .pointer (some ⟨b, o + (n - 1 - k) * 25, none⟩), X, u17, u18], defers := [] } w1
      refine li_round (l := l) (f := fn) (tmps := tmps) (assign := assign) (body := body) (w' := w1) ?_ (by simp) (hR'.mono ?_)
      · rw [x_yield (l := l) rfl]
        simpa [Go.Act.eval] using hy
      rintro e W3 ⟨rfl, hJ3⟩
      refine ⟨_, rfl, ?_⟩
      change wpListIn _ _ _ _ _ _ { tmps := #[.func (.yield l) #[] #[], .pointer (some ⟨B, 0, none⟩), undef, .int .i64 ((n : Int) - 1 - (k : Int)), .slice a n cap, .int .i64 n, .int .i64 ((n : Int) - 1), .int .i64 ((n : Int) - 1 - (k : Int)), .bool true, u9, u10, .func (.yield l) #[] #[], .int .i64 ((n : Int) - 1 - (k : Int)), .slice (some ⟨b, o, none⟩) n cap', .int .i64 ((n : Int) - 1 - (k : Int)), .pointer (some ⟨b, o + (n - 1 - k) * 25, none⟩), X, .bool true, u18], defers := [] } W3
      refine li_val (.bool false) W3 ?_ (by simp) ?_
      · exact x_not (b := true) rfl
      change wpListIn _ _ _ _ _ _ { tmps := #[.func (.yield l) #[] #[], .pointer (some ⟨B, 0, none⟩), undef, .int .i64 ((n : Int) - 1 - (k : Int)), .slice a n cap, .int .i64 n, .int .i64 ((n : Int) - 1), .int .i64 ((n : Int) - 1 - (k : Int)), .bool true, u9, u10, .func (.yield l) #[] #[], .int .i64 ((n : Int) - 1 - (k : Int)), .slice (some ⟨b, o, none⟩) n cap', .int .i64 ((n : Int) - 1 - (k : Int)), .pointer (some ⟨b, o + (n - 1 - k) * 25, none⟩), X, .bool true, .bool false], defers := [] } W3
      unfold wpListIn
      change Code.wpIn _ _ _ _ _ _ _
      refine wpIn_cond_false rfl (wpIn_skip ?_)
      change Code.wpIn _ _ _ _ _ _ _
      clear hy hR'
      gi_wp2
      go_roundw
      case rel => exact ⟨k + 1, by omega, by simp; omega, hJ3⟩
      case measure => simp [intOf]; omega
    · obtain rfl : k = n := by omega
      gi_wp2
      go_end0
      exact ⟨⟨_, rfl⟩, hJs⟩
end Go.Proofs.Ytggdnepfahknbaa
