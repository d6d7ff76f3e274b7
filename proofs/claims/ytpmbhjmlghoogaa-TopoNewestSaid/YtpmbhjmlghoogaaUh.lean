/- New switches, of which nothing more is asked. No condition. -/
import Derived.Test.YtpmbhjmlghoogaaUg
namespace Go.Proofs.Ytpmbhjmlghoogaa
open Go Ab
set_option linter.unusedSimpArgs false
set_option linter.unusedVariables false
set_option maxRecDepth 20000

/-- Of an answer of two only the second one is kept. -/
theorem Snd_snd {P : Program} {f : FuncId} {vs : List V} {mv : Mem} {i : V} (hc : closedB (List.range mv.length) mv = true) (hb : nf i = true) (h : Snd P f vs mv fun r => ∃ x new, r = .ret (.tup [x, i]) (mv ++ new)) : Snd P f vs mv fun r => r = .ret (.tup [.unk, i]) mv := by
  intro ρ I w xs hr hl hrt
  refine (h ρ I w xs hr hl hrt).mono ?_
  rintro e w' ⟨r, ⟨y, new, rfl⟩, x, ρ', I', rfl, p1, p2, p3⟩
  obtain ⟨c1, c2, c3⟩ := closed_parts hc
  have hget : ∀ k, k < mv.length → (mv ++ new).getD k .dead = mv.getD k .dead := fun k hk => by
    simp only [List.getD, List.getElem?_append_left hk]
  have hc' : closedB (List.range mv.length) (mv ++ new) = true := by
    unfold closedB at hc ⊢
    simp only [Bool.and_eq_true, List.all_eq_true, Nat.blt_eq] at hc ⊢
    refine ⟨hc.1, fun k hk => by have := hc.2.1 k hk; simp; omega, fun k hk => ?_⟩
    rw [hget k (List.mem_range.1 hk)]
    exact hc.2.2 k hk
  have hv : view (List.range mv.length) (mv ++ new) = mv := by
    apply List.ext_getElem?
    intro k
    unfold view
    rw [List.getElem?_map]
    rcases Nat.lt_or_ge k mv.length with hk | hk
    · rw [List.getElem?_range hk, Option.map_some, hget k hk, List.getElem?_eq_getElem hk]
      congr 1
      have e1 : mv.getD k .dead = mv[k] := by simp [List.getD, hk]
      rw [e1]
      refine renB_id (D := fun j => (List.range mv.length).contains j) (fun j hj => idx_range (List.mem_range.1 (by simpa using hj))) ?_
      have := c3 k (List.mem_range.2 hk)
      rwa [e1] at this
    · rw [List.getElem?_eq_none (by simpa using hk), List.getElem?_eq_none hk]
      rfl
  have hvw := p1.view hc'
  rw [show (CR.ret (V.tup [y, i]) (mv ++ new)).mem = mv ++ new from rfl, hv] at hvw
  have hrho : ∀ k, k < mv.length → ρ' ((List.range mv.length).getD k 0) = ρ k := fun k hk => by
    rw [getD_range hk]
    exact p2.rho k hk
  refine ⟨_, rfl, x, _, I', rfl, hvw, ⟨Nat.le_refl _, hrho, fun n hn h => h, p2.iSub, p2.iNew, fun b hb => ?_, p2.wle, p2.frame⟩, ?_⟩
  · obtain ⟨n, h1, h2⟩ := hb
    have hn := Ab.live_lt h1
    right
    exact ⟨n, h1, by rw [← h2]; exact (congrArg Prod.fst (hrho n hn)).symm⟩
  · have p3 : RV (mv ++ new).length ρ' I' w' (.tup [y, i]) x := p3
    show RV mv.length _ I' w' (.tup [.unk, i]) x
    simp only [RV, Rt] at p3 ⊢
    obtain ⟨c, rfl, h2, ⟨z1, h3, h4⟩, ⟨z2, h5, h6⟩, _⟩ := p3
    exact ⟨c, rfl, h2, ⟨z1, h3, trivial⟩, ⟨z2, h5, RV_nf _ _ hb h6⟩, trivial⟩

def chkN (o : Option (List CR)) (m : Mem) : Bool := match o with
  | some l => l.all fun q => match q with
    | .ret (.tup [_, .int .i64 k]) m1 => decide (k = 0) && eqM (m1.take m.length) m
    | _ => false
  | none => false
theorem new_of {vs : List V} {m : Mem} (h : chkN (funXT Try.prog [] 3000 20 vs m) m = true) (hc : closedB (List.range m.length) m = true) : Snd Try.prog 20 vs m fun q => q = .ret (.tup [.unk, .int .i64 0]) m := by
  refine Snd_snd hc rfl ?_
  cases e : funXT Try.prog [] 3000 20 vs m with
  | none => rw [e] at h; cases h
  | some l =>
    rw [e] at h
    refine (funXT_good fol (es := []) trivial 3000 20 vs m l e).mono fun q hq => ?_
    have h1 := List.all_eq_true.1 h q hq
    split at h1
    · rename_i x k m1
      simp only [Bool.and_eq_true, decide_eq_true_eq] at h1
      obtain ⟨rfl, h2⟩ := h1
      have h3 := eqM_eq h2
      exact ⟨x, m1.drop m.length, by rw [show m ++ m1.drop m.length = m1 by conv => rhs; rw [← List.take_append_drop m.length m1, h3]]⟩
    · cases h1
def u16C (x : Nat) : List V := [.int .u16 (x : Int)]
def rowU (l : List Nat) : B := .row 27 1 (l.map u16C)
theorem new1 : Snd Try.prog 20 [.int .u16 1, .nils, .sl 1 0 0 2, .int .i64 0, .int .i64 0] [rowU [1, 2]] fun q => q = .ret (.tup [.unk, .int .i64 0]) [rowU [1, 2]] := new_of (by kernel_rfl) (by kernel_rfl)
theorem new2 : Snd Try.prog 20 [.int .u16 2, .nils, .sl 1 0 0 2, .int .i64 0, .int .i64 0] [rowU [1, 2]] fun q => q = .ret (.tup [.unk, .int .i64 0]) [rowU [1, 2]] := new_of (by kernel_rfl) (by kernel_rfl)
theorem new3 : Snd Try.prog 20 [.int .u16 3, .sl 1 0 0 1, .sl 1 1 0 1, .int .i64 0, .int .i64 0] [rowU [9], rowU [4]] fun q => q = .ret (.tup [.unk, .int .i64 0]) [rowU [9], rowU [4]] := new_of (by kernel_rfl) (by kernel_rfl)
theorem new4 : Snd Try.prog 20 [.int .u16 5, .nils, .sl 1 0 0 1, .int .i64 0, .int .i64 0] [rowU [6]] fun q => q = .ret (.tup [.unk, .int .i64 0]) [rowU [6]] := new_of (by kernel_rfl) (by kernel_rfl)
end Go.Proofs.Ytpmbhjmlghoogaa
