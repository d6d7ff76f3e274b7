/- Are two packets the same? Calls of put. No condition. -/
import Derived.Test.YtpmbhjmlghoogaaNk
import Derived.Test.YtpmbhjmlghoogaaAm9
namespace Go.Proofs.Ytpmbhjmlghoogaa
open Go Ab
set_option linter.unusedSimpArgs false
set_option linter.unusedVariables false
set_option maxRecDepth 20000

def pkC (h : Hd) (b : List Nat) : List V := hdC h ++ [byV b]
def pkA (h : Hd) (b : List Nat) : V := .agg (pkC h b)
theorem pk_len (h : Hd) (b : List Nat) : (pkC h b).length = 12 := rfl
theorem pk_hd (h : Hd) (b : List Nat) : partK true 11 (pkC h b) 0 = some (.agg (hdC h)) := rfl
theorem pk_11 (h : Hd) (b : List Nat) : (pkC h b)[11]? = some (byV b) := rfl
theorem pk_all (h : Hd) (b : List Nat) : partK true 12 (pkC h b) 0 = some (.agg (pkC h b)) := rfl
theorem nfs_pk (h : Hd) (b : List Nat) : nfs (pkC h b) = true := by
  have := nf_by b
  show nfs (hdC h ++ [byV b]) = true
  simp [hdC, cl, List.range, List.range.loop, nfs, nf, this]
theorem nf_pkA (h : Hd) (b : List Nat) : nf (pkA h b) = true := nfs_pk h b
theorem sh25 : shp Try.prog 9 45 = some ((List.range 11).map fun _ => Sh.ti .u64) := by kernel_rfl
theorem key25 : (Try.prog.keyTypeAt 8 45 && (!Try.prog.eqGuardType Try.prog.depth 45 && isAggT Try.prog 45)) = true := by kernel_rfl
theorem inK_hd {h : Hd} (hh : U64h h) : Ab.inK .u64 11 fun i => (h i : Int) := by
  intro i hi
  have := hh i hi
  simp [Lit.wf, IntKind.min, IntKind.max, IntKind.bits, IntKind.signed]
  omega
def eqH (h g : Hd) : Bool := eqN 11 (fun i => (h i : Int)) fun i => (g i : Int)
theorem eqH_iff {h g : Hd} : eqH h g = true ↔ ∀ i, i < 11 → h i = g i := by
  unfold eqH
  rw [eqN_iff]
  exact ⟨fun h i hi => by have := h i hi; omega, fun h i hi => by have := h i hi; omega⟩
theorem eqH_refl (h : Hd) : eqH h h = true := eqH_iff.2 fun _ _ => rfl
theorem eq25 (h g : Hd) (hh : U64h h) (hg : U64h g) : eqV Try.prog 45 (.agg (hdC h)) (.agg (hdC g)) = some (eqH h g) := eqV_cl2 key25 sh25 (inK_hd hh) (inK_hd hg)
theorem hd_ext {h g : Hd} (e : eqH h g = true) : hdC h = hdC g := by
  have := eqH_iff.1 e
  unfold hdC cl
  exact List.map_congr_left fun i hi => by simp only [this i (List.mem_range.1 hi)]

theorem nfB_row (l : List Nat) : nfB (rowB l) = true := nfs_by l
theorem callD_put36 {m : Mem} {K Kp : V → Mem → Prop} {n q x : Nat} {k : Int} (j : Nat) (l : List Nat) (hm : nfM m = true) (hn : m[n]? = some (rowB l)) (hq : l.length = q) (hk : k = ((j + 1 : Nat) : Int)) (hj : j < 8) (hl : q < 100000)
    (h : K (.sl 1 m.length 0 (q + (j + 1))) (m.set n .dead ++ [rowB (l ++ putB x (j + 1) (j + 1))])) : callD Try.prog 50 [.sl 1 n 0 q, .int .u64 (x : Int), .int .i64 k] m K Kp := by
  subst hq hk
  exact callD_sl (snd36s l hl x (j + 1) (by omega) (by omega)) en50 hm (nfM_cons rfl (nfM_cons (nfB_row _) rfl)) hn rfl rfl h
theorem callD_put42 {m : Mem} {K Kp : V → Mem → Prop} {n q x : Nat} {k : Int} (j : Nat) (l : List Nat) (hm : nfM m = true) (hn : m[n]? = some (rowB l)) (hq : l.length = q) (hk : k = ((j + 1 : Nat) : Int)) (hj : j < 8) (hl : q < 100000)
    (h : K (.sl 1 m.length 0 (q + (j + 1))) (m.set n .dead ++ [rowB (l ++ putB x (j + 1) (j + 1))])) : callD Try.prog 47 [.sl 1 n 0 q, .int .u64 (x : Int), .int .i64 k] m K Kp := by
  subst hq hk
  exact callD_sl (snd42s l hl x (j + 1) (by omega) (by omega)) en47 hm (nfM_cons rfl (nfM_cons (nfB_row _) rfl)) hn rfl rfl h
theorem callE_put36 {m : Mem} {K0 : V → Prop} {K1 : V → Mem → List Nat → Prop} {n q x : Nat} {k : Int} (j : Nat) (l : List Nat) (hm : nfM m = true) (hn : m[n]? = some (rowB l)) (hq : l.length = q) (hk : k = ((j + 1 : Nat) : Int)) (hj : j < 8) (hl : q < 100000)
    (h : K1 (.sl 1 m.length 0 (q + (j + 1))) (m.set n .dead ++ [rowB (l ++ putB x (j + 1) (j + 1))]) [n]) : callE Try.prog 50 [.sl 1 n 0 q, .int .u64 (x : Int), .int .i64 k] m K0 K1 := by
  subst hq hk
  exact callE_sl (snd36s l hl x (j + 1) (by omega) (by omega)) en50 hm (nfM_cons rfl (nfM_cons (nfB_row _) rfl)) hn rfl rfl h
theorem callE_putn {m : Mem} {K0 : V → Prop} {K1 : V → Mem → List Nat → Prop} {x : Nat} {k : Int} (j : Nat) (hk : k = ((j + 1 : Nat) : Int)) (hj : j < 8)
    (h : K1 (.sl 1 m.length 0 (j + 1)) (m ++ [rowB (putB x (j + 1) (j + 1))]) []) : callE Try.prog 50 [.nils, .int .u64 (x : Int), .int .i64 k] m K0 K1 := by
  subst hk
  refine callE_new (snd36n x (j + 1) (by omega) (by omega)) en50 rfl (nfM_cons (nfB_row _) rfl) rfl rfl ?_
  have e : ren (back [] m.length) (bV (j + 1)) = .sl 1 m.length 0 (j + 1) := rfl
  rw [e]
  exact h
theorem callD_putn {f : FuncId} {m : Mem} {K Kp : V → Mem → Prop} {x : Nat} {k : Int} (j : Nat) (hs : Snd Try.prog f [.nils, .int .u64 (x : Int), .int .i64 ((j + 1 : Nat) : Int)] [] fun r => r = .ret (bV (j + 1)) (mV x (j + 1) (j + 1))) (he : enterable Try.prog f = true) (hk : k = ((j + 1 : Nat) : Int)) (hj : j < 8)
    (h : K (.sl 1 m.length 0 (j + 1)) (m ++ [rowB (putB x (j + 1) (j + 1))])) : callD Try.prog f [.nils, .int .u64 (x : Int), .int .i64 k] m K Kp := by
  subst hk
  have e : ren (back [] m.length) (bV (j + 1)) = .sl 1 m.length 0 (j + 1) := rfl
  exact callD_new _ hs he rfl (nfM_cons (nfB_row _) rfl) rfl e rfl h
end Go.Proofs.Ytpmbhjmlghoogaa
