/- Questions are built, and what packets say of addresses is read, as the document says. No condition. -/
import Derived.Test.YtpmbhjmlghoogaaPb
namespace Go.Proofs.Ytpmbhjmlghoogaa
open Go Ab
set_option linter.unusedSimpArgs false
set_option linter.unusedVariables false
set_option maxRecDepth 20000

theorem pkA_eq {h g : Hd} (e : eqH h g = true) (b : List Nat) : pkA h b = pkA g b := by
  unfold pkA pkC
  rw [hd_ext e]
theorem prs_arp (s d f t op : Nat) (ho : op = 1 ∨ op = 2) (hs : s < 281474976710656) (hd : d < 281474976710656) (hf : f < 4294967296) (ht : t < 4294967296) : prsA (frmR (aH s d f t) [op]) = .tup [pkA (aH s d f t) [op], .int .i64 0] := by
  have h0 := arp_bld s d f t op ho hs hd hf ht
  obtain ⟨k1, k2, k3⟩ := built_read h0
  have e : eqH (rdH (frmR (aH s d f t) [op])) (aH s d f t) = true := by
    refine eqH_iff.2 fun i hi => ?_
    by_cases h9 : i < 9
    · exact k2 i h9
    · have : i = 9 ∨ i = 10 := by omega
      rcases this with rfl | rfl <;> rfl
  rw [prsA_ok k1, k3, pkA_eq e]
theorem isQ_aH (s d f t op : Nat) (ho : op = 1 ∨ op = 2) (hs : s < 281474976710656) (hd : d < 281474976710656) (hf : f < 4294967296) (ht : t < 4294967296) : isQ (aH s d f t) [op] = true := by
  have ak : asks [op] = true := by rcases ho with rfl | rfl <;> rfl
  have k : decide (aH s d f t 2 = 2054) = true := rfl
  unfold isQ
  rw [aH_ok s d f t hs hd hf ht, k, ak]
  rfl
theorem isA_aH (m s d f t op : Nat) (ho : op = 1 ∨ op = 2) (hs : s < 281474976710656) (hd : d < 281474976710656) (hf : f < 4294967296) (ht : t < 4294967296) : isA m (aH s d f t) [op] = (decide (op = 1) && decide (m < 281474976710656)) := by
  unfold isA
  rw [isQ_aH s d f t op ho hs hd hf ht]
  rfl
theorem ia_byD {l : List Nat} {j v : Nat} {k : IntKind} (h : l[j]? = some v) : iaddrS 1 (byV l) (.int k (j : Int)) = some (.ip (byC v)) := by
  obtain ⟨h1, h2⟩ := List.getElem?_eq_some_iff.1 h
  rw [ia_by h1, h2]
theorem fr_lt (s d f t op : Nat) (ho : op = 1 ∨ op = 2) : ∀ x ∈ frmR (aH s d f t) [op], x < 256 := frmR_lt _ _ (op_lt ho)
theorem fr_len (s d f t op : Nat) : (frmR (aH s d f t) [op]).length < 140737488351233 := by rw [arp_len]; omega
/-! ### wakes -/
def wH : Hd := aH 2199023255553 281474976710655 167772161 167772162
def wB : List Nat := frmR wH [1]
def wA : List Nat := frmR (aH 2199023255554 2199023255553 167772162 167772161) [2]
theorem wB_eq : askL 2199023255553 167772161 167772162 = wB := by
  unfold askL
  rw [show decide (2199023255553 < 281474976710656) = true from rfl]
  rfl
theorem wB_len : wB.length = 42 := arp_len _ _ _ _ _
theorem wA_len : wA.length = 42 := arp_len _ _ _ _ _
theorem wB_prs : prsA wB = .tup [pkA wH [1], .int .i64 0] := prs_arp _ _ _ _ _ (.inl rfl) (by omega) (by omega) (by omega) (by omega)
theorem wA_eq : isA 2199023255554 wH [1] = true := by
  unfold wH
  rw [isA_aH _ _ _ _ _ _ (.inl rfl) (by omega) (by omega) (by omega) (by omega)]
  rfl
theorem wN_eq : askL 281474976710656 1 2 = [] := rfl
/-! ### The laws that read and ask -/
theorem askL_len (s f t : Nat) : (askL s f t).length ≤ 42 := by
  unfold askL
  cases decide (s < 281474976710656)
  · simp
  · rw [cond_true, arp_len]; omega
theorem nf_rA (h : Hd) (b : List Nat) : nf (rA h b) = true := by unfold rA; cases isQ h b <;> rfl
/-- A packet elsewhere, with another tag. -/
def tagH (h : Hd) (v o w : Nat) : Hd := upH (upH (upH h 3 v) 9 o) 10 w
theorem tag_fit (h : Hd) (v o w : Nat) (hv : v < 4096) (ho : o < 65536) (hw : w < 65536) : allFit (tagH h v o w) = allFit (tagH h 0 0 0) := by
  rw [Bool.eq_iff_iff]
  unfold allFit
  simp only [List.all_eq_true, List.mem_range, decide_eq_true_eq]
  have key : ∀ j, j < 11 → (tagH h v o w j < 2 ^ wid j ↔ tagH h 0 0 0 j < 2 ^ wid j) := by
    intro j hj
    unfold tagH
    simp only [upH_at]
    by_cases h10 : j = 10
    · subst h10
      simp only [if_true]
      have : (2 ^ wid 10 : Nat) = 65536 := rfl
      omega
    · rw [if_neg h10, if_neg h10]
      by_cases h9 : j = 9
      · subst h9
        simp only [if_true]
        have : (2 ^ wid 9 : Nat) = 65536 := rfl
        omega
      · rw [if_neg h9, if_neg h9]
        by_cases h3 : j = 3
        · subst h3
          simp only [if_true]
          have : (2 ^ wid 3 : Nat) = 4096 := rfl
          omega
        · rw [if_neg h3, if_neg h3]
  exact ⟨fun a j hj => (key j hj).1 (a j hj), fun a j hj => (key j hj).2 (a j hj)⟩
theorem tag_read (h : Hd) (b : List Nat) (v o w : Nat) (hv : v < 4096) (ho : o < 65536) (hw : w < 65536) : rA (tagH h v o w) b = rA (tagH h 0 0 0) b := by
  have h1 : okT (tagH h v o w) = okT (tagH h 0 0 0) := rfl
  have h2 : isQ (tagH h v o w) b = isQ (tagH h 0 0 0) b := by
    unfold isQ okH
    rw [tag_fit h v o w hv ho hw, h1]
    rfl
  unfold rA
  rw [h2]
  rfl
theorem pk_s3 (h : Hd) (b : List Nat) (v : Nat) : (pkC h b).set 3 (.int .u64 (v : Int)) = pkC (upH h 3 v) b := rfl
theorem pk_s9 (h : Hd) (b : List Nat) (v : Nat) : (pkC h b).set 9 (.int .u64 (v : Int)) = pkC (upH h 9 v) b := rfl
theorem pk_s10 (h : Hd) (b : List Nat) (v : Nat) : (pkC h b).set 10 (.int .u64 (v : Int)) = pkC (upH h 10 v) b := rfl
theorem pk_z3 (h : Hd) (b : List Nat) : (pkC h b).set 3 (.int .u64 0) = pkC (upH h 3 0) b := rfl
theorem tagH_u64 {h : Hd} (hh : U64h h) (v o w : Nat) (hv : v < 65536) (ho : o < 65536) (hw : w < 65536) : U64h (tagH h v o w) := by
  intro i hi
  unfold tagH
  simp only [upH_at]
  split
  · omega
  · split
    · omega
    · split
      · omega
      · exact hh i hi
theorem gt4095 (x : Nat) : decide ((4095 : Int) < (x : Int)) = decide (4095 < x) := by rw [Bool.eq_iff_iff]; simp; omega
end Go.Proofs.Ytpmbhjmlghoogaa
