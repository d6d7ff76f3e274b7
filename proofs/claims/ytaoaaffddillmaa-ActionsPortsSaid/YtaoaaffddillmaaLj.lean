/- What copies do to a header. No condition. -/
import Derived.Test.YtaoaaffddillmaaLi
namespace Go.Proofs.Ytaoaaffddillmaa
open Go Ab
set_option linter.unusedSimpArgs false
set_option linter.unusedVariables false
set_option maxRecDepth 20000

def setH (h : Hd) (i n : Nat) : Hd := fun j => if j = i then n else h j
theorem set_hd (h : Hd) {i : Nat} (n : Nat) (hi : i < 11) : (hdC h).set i (.int .u64 (n : Int)) = hdC (setH h i n) := by
  unfold hdC
  rw [cl_ub hi]
  refine cl_congr fun j _ => ?_
  unfold ub setH
  split <;> rfl
theorem set_hd9 (h : Hd) (n : Nat) : (hdC h).set 9 (.int .u64 (n : Int)) = hdC (setH h 9 n) := set_hd h n (by omega)

def own' (h : Hd) (a : Act) : Hd := if 0 ≤ a.f ∧ a.f < 11 then setH h a.f.toNat a.n else h
def sent (h : Hd) (a : Act) : Hd := if a.n = 0 then h else setH h 9 a.n
def acts (ps : List Nat) : List Act → Hd → List Hd → Bool → List Hd × Bool
  | [], _, out, p => (out, p)
  | a :: r, h, out, p => bif decide (a.d = 0) then acts ps r (own' h a) out p else bif decide (a.d = 1) then acts ps r h (bif hasP ps (sent h a 9) then out ++ [sent h a] else out) p
    else bif decide (a.d = 2) then acts ps r h out true else acts ps r h out p
def runs (ps : List Nat) (h : Hd) : List (List Act) → List Hd → Bool → List Hd × Bool
  | [], out, p => (out, p)
  | c :: r, out, p => runs ps h r (acts ps c h out p).1 (acts ps c h out p).2
def tot : List (List Act) → Nat
  | [] => 0
  | c :: r => c.length + tot r

def outV (n : Nat) : List Hd → V
  | [] => .nils
  | o :: r => .sl 11 n 0 ((o :: r).map hdC).length
def outM : List Hd → Mem
  | [] => []
  | o :: r => [.row 24 11 ((o :: r).map hdC)]
theorem outV_nil (n : Nat) : outV n [] = .nils := rfl
theorem outV_cons (n : Nat) (o : Hd) (r : List Hd) : outV n (o :: r) = .sl 11 n 0 ((o :: r).map hdC).length := rfl
theorem outM_nil : outM [] = [] := rfl
theorem outM_cons (o : Hd) (r : List Hd) : outM (o :: r) = [.row 24 11 ((o :: r).map hdC)] := rfl
theorem bare_hd (h : Hd) : bareL (hdC h) = true := rfl
theorem bare_hds : ∀ l : List Hd, (l.map hdC).all bareL = true
  | [] => rfl
  | h :: r => by simp [bare_hd, bare_hds r]
def runV (x : List Hd × Bool) : V := .tup [.isl 11 (x.1.map hdC), .bool x.2]
theorem nf_run (x : List Hd × Bool) : nf (runV x) = true := by simp [runV, nf, nfs, nfs_hds]
theorem ret_run (h : Hd) (out : List Hd) (p : Bool) : retOk bareL (.var 24 (hdC h) :: outM out) (runV (out, p)) (.tup [outV 1 out, .bool p]) := by
  refine ⟨_, rfl, ?_, ⟨rfl, rfl⟩, trivial⟩
  cases out with
  | nil => exact ret1_nil
  | cons o r => exact ret1_row rfl rfl (bare_hds _)

theorem get_ac0 (a : Act) : (acC a)[0]? = some (.int .i8 a.d) := rfl
theorem get_ac1 (a : Act) : (acC a)[1]? = some (.int .i8 a.f) := rfl
theorem get_ac2 (a : Act) : (acC a)[2]? = some (.int .u64 (a.n : Int)) := rfl
theorem ac_len (a : Act) : (acC a).length = 3 := rfl
theorem st_ac {m : Mem} {n off : Nat} (a : Act) : storeK 3 m (.ptr n off) (.agg (acC a)) = (m[n]?).bind fun b => match b with
    | .var ty l => if off + 3 ≤ l.length then some (m.set n (.var ty (splice l off (acC a)))) else none
    | _ => none := storeK_agg (ac_len a)
theorem splice_ac (a : Act) (x y z : V) : splice [x, y, z] 0 (acC a) = acC a := rfl
theorem nfsL_ac (a : Act) : nfs (acC a) = true := rfl
theorem wrap_i8f {f : Int} (h : (Lit.int .i8 f).wf = true) : IntKind.i64.wrap f = f := by
  have : -128 ≤ f ∧ f ≤ 127 := by
    simp [Lit.wf, IntKind.min, IntKind.max, IntKind.bits, IntKind.signed] at h
    omega
  simp [IntKind.wrap, IntKind.bits, IntKind.signed]; omega
theorem nfss_app : ∀ {l k : List (List V)}, nfss l = true → nfss k = true → nfss (l ++ k) = true
  | [], _, _, h => h
  | b :: r, k, h, hk => by
    simp only [nfss, Bool.and_eq_true] at h
    simp only [List.cons_append, nfss, h.1, nfss_app h.2 hk, Bool.and_self]
theorem nfss_snoc' {l : List (List V)} {a : List V} (h : nfss l = true) (k : nfs a = true) : nfss (l ++ [a]) = true := nfss_snoc h k
theorem nf_hda (h : Hd) : nf (.agg (hdC h)) = true := nfs_hd h
theorem own_at {h : Hd} {a : Act} {j : Nat} (e : a.f = (j : Int)) (hj : j < 11) : own' h a = setH h j a.n := by
  unfold own'
  rw [if_pos (by omega), e]
  rfl
theorem own_not {h : Hd} {a : Act} (e : ¬ (0 ≤ a.f ∧ a.f < 11)) : own' h a = h := by
  unfold own'
  rw [if_neg e]
end Go.Proofs.Ytaoaaffddillmaa
