/- Which messages are right, but for their length. No condition. -/
import Derived.Test.YtjjenpdjmcmgbaaDZk
namespace Go.Proofs.Ytjjenpdjmcmgbaa
open Go Ab
set_option linter.unusedSimpArgs false
set_option linter.unusedVariables false
set_option maxRecDepth 20000
def eqM (a b : Nat → Nat) : Bool := eqN 22 (fun i => (a i : Int)) (fun i => (b i : Int))
def zeroR (r : Ru) : Bool := decide (r.rank = 0) && (decide (r.ck = 0) && (decide (r.l.length = 0) && eqM r.w fun _ => 0))
def inT (t : Int) (l : List Int) : Bool := decide (t ∈ l)
def zs (x : Ms) : List (Bool × Bool) := [(decide (x.dd = 0) && zeroR x.r, inT x.ty [5]), (decide (x.port = 0), inT x.ty [6, 7, 11, 12]), (!x.up, inT x.ty [12]),
  (decide (x.sw = 0) && (decide (x.ports.length = 0) && decide (x.edge.length = 0)), inT x.ty [4]), (decide (x.frame.length = 0), inT x.ty [6, 7]), (decide (x.helds.length = 0), inT x.ty [11]), (decide (x.code = 0), inT x.ty [13])]
/-- Nothing stands in it but what counts. -/
def onlyM (x : Ms) : Bool := (zs x).all fun p => p.1 || p.2
def rightM (x : Ms) : Bool := isTy x.ty && (onlyM x && (x.helds.all (fun h => fairR h.r) && ((!decide (x.ty = 11) || decide (x.port ≤ 1)) && (!decide (x.ty = 5) || (decide (0 ≤ x.dd) && (decide (x.dd ≤ 3) && fairR x.r))))))
theorem right_ty {x : Ms} (h : isTy x.ty = false) : rightM x = false := by simp [rightM, h]
theorem right_only {x : Ms} (h : onlyM x = false) : rightM x = false := by simp [rightM, h]
theorem right_held {x : Ms} {i : Nat} (hi : i < x.helds.length) (h : fairR x.helds[i].r = false) : rightM x = false := by
  have : x.helds.all (fun h => fairR h.r) = false := by
    rw [List.all_eq_false]
    exact ⟨_, List.getElem_mem hi, by simp [h]⟩
  simp [rightM, this]
theorem inK_nat {n : Nat} {a : Nat → Nat} (h : U64 n a) : inK .u64 n fun i => (a i : Int) := fun i hi => by
  have := h i hi
  simp [Lit.wf, IntKind.min, IntKind.max, IntKind.bits, IntKind.signed]
  omega
theorem eq28 {a b : Nat → Nat} (ha : U64 22 a) (hb : U64 22 b) : eqV Try.prog 28 (.agg (mC a)) (.agg (mC b)) = some (eqM a b) := ea28 _ _ (inK_nat ha) (inK_nat hb)
theorem eq28z {a : Nat → Nat} (ha : U64 22 a) : eqV Try.prog 28 (.agg (mC a)) (.agg (cl .u64 22 fun _ => 0)) = some (eqM a fun _ => 0) := eq28 ha fun _ _ => by show (0 : Nat) < _; omega
theorem u0 : U64 22 fun _ => 0 := fun _ _ => by show (0 : Nat) < _; omega
theorem cutTest {P : Program} {all : Array Oper} {t : Bool} {r1 r2 : List Oper} {env1 env2 : Env} {m1 m2 : Mem} {K : Env → Mem → Prop} {Kp : V → Mem → Prop} (C : Env → Mem → Prop)
    (h1 : t = true → runOps P all r1 env1 m1 C fun _ _ => False) (h2 : t = false → runOps P all r2 env2 m2 C fun _ _ => False) (hK : ∀ e m, C e m → K e m) : testP t (runOps P all r1 env1 m1 K Kp) (runOps P all r2 env2 m2 K Kp) :=
  ⟨fun h => runOps_mono hK (fun _ _ h => h.elim) _ _ _ (h1 h), fun h => runOps_mono hK (fun _ _ h => h.elim) _ _ _ (h2 h)⟩
theorem w_cut {P : Program} {K0 : Nat} {R : List Nat} {c : Code} {E : Nat → List Nat} {L : List Nat} {env : Env} {m : Mem} {Q : Ex → Env → Mem → Prop} (C : Env → Mem → Prop)
    (h : W P K0 R c E L env m fun ex e m => match ex with | .nrm => C e m | _ => False) (hn : ∀ e m, C e m → Q .nrm e m) : W P K0 R c E L env m Q :=
  W_mono _ _ _ _ _ _ _ (fun ex e m h => by
    cases ex with
    | nrm => exact hn e m h
    | _ => exact h.elim) h
theorem lit92_1 (a : Int) : litV Try.prog 92 1 [(0, .int .i8 a)] = some (i8V [a]) := by kernel_rfl
theorem lit92_2 (a b : Int) : litV Try.prog 92 2 [(0, .int .i8 a), (1, .int .i8 b)] = some (i8V [a, b]) := by kernel_rfl
theorem lit92_4 (a b c d : Int) : litV Try.prog 92 4 [(0, .int .i8 a), (1, .int .i8 b), (2, .int .i8 c), (3, .int .i8 d)] = some (i8V [a, b, c, d]) := by kernel_rfl
def zC (p : Bool × Bool) : List V := [.bool p.1, .bool p.2]
def zV (l : List (Bool × Bool)) : V := .isl 2 (l.map zC)
theorem lit96 (a b c d e f g a' b' c' d' e' f' g' : Bool) : litV Try.prog 96 7 [(0, .agg [.bool a, .bool a']), (1, .agg [.bool b, .bool b']), (2, .agg [.bool c, .bool c']), (3, .agg [.bool d, .bool d']), (4, .agg [.bool e, .bool e']), (5, .agg [.bool f, .bool f']), (6, .agg [.bool g, .bool g'])]
    = some (zV [(a, a'), (b, b'), (c, c'), (d, d'), (e, e'), (f, f'), (g, g')]) := by kernel_rfl
theorem bu95 (a b : Bool) : buildV Try.prog 95 [(0, .bool a), (1, .bool b)] = some (.agg [.bool a, .bool b]) := by kernel_rfl
theorem callQ_is {m : Mem} {K : V → Prop} (l : List Int) {v : V} (hv : v = i8V l) (x : Ms) (hl : l.length < 1000) (hk : m[0]? = some (.var 54 [.ip (msC x)])) (h : K (.bool (inT x.ty l))) : callQ Try.prog 36 [v, .ptr 0 0] m K := by
  subst hv
  refine .inr ⟨en36, .bool (inT x.ty l), [0], fun n hn => ?_, fun m2 h2 => ?_, h⟩
  · simp at hn; subst hn; exact (List.getElem?_eq_some_iff.1 hk).1
  · exact snd36 l x hl (by rw [h2 0 (by simp)]; exact hk)
theorem nfs_app : ∀ {a b : List V}, nfs a = true → nfs b = true → nfs (a ++ b) = true
  | [], _, _, hb => hb
  | x :: l, b, ha, hb => by
    simp only [nfs, Bool.and_eq_true] at ha
    simp only [List.cons_append, nfs, ha.1, nfs_app ha.2 hb, Bool.and_self]
theorem nfs_acs : ∀ c : List Act, nfss (c.map acC) = true
  | [] => rfl
  | a :: r => by simp [nfss, nfs, nf, acC, nfs_acs r]
theorem nfs_cps : ∀ l : List (List Act), nfss (l.map fun c => [cpV c]) = true
  | [] => rfl
  | c :: r => by
    have : nf (cpV c) = true := by simp only [nf, cpV]; exact nfs_acs c
    simp only [List.map_cons, nfss, nfs, this, Bool.and_self, nfs_cps r]
theorem nf_cps (l : List (List Act)) : nf (cpsV l) = true := by simp only [nf, cpsV]; exact nfs_cps l
theorem nfs_ru (r : Ru) : nfs (ruC r) = true := by
  show (true && nfs (mC r.w ++ [cpsV r.l, .int .u64 (r.ck : Int)])) = true
  rw [nfs_app (show nfs (mC r.w) = true from nfs_cl) (by simp only [nfs, nf_cps, nf, Bool.and_self])]
  rfl
theorem nfs_he (h : He) : nfs (heC h) = true := nfs_app (nfs_ru h.r) rfl
theorem nfs_hes : ∀ l : List He, nfss (l.map heC) = true
  | [] => rfl
  | c :: r => by simp only [List.map_cons, nfss, nfs_he, Bool.and_self, nfs_hes r]
theorem nfs_po : ∀ l : List Nat, nfss (l.map poC) = true
  | [] => rfl
  | c :: r => by simp [nfss, nfs, nf, poC, nfs_po r]
theorem nfs_by : ∀ l : List Nat, nfss (l.map byC) = true
  | [] => rfl
  | a :: r => by simp [nfss, nfs, nf, byC, nfs_by r]
theorem nf_by (l : List Nat) : nf (byV l) = true := by simp only [nf, byV]; exact nfs_by l
theorem nf_po (l : List Nat) : nf (poV l) = true := by simp only [nf, poV]; exact nfs_po l
theorem nf_hes (l : List He) : nf (hesV l) = true := by simp only [nf, hesV]; exact nfs_hes l
theorem nfs_ms (x : Ms) : nfs (msC x) = true := by
  show (true && (true && (true && nfs (ruC x.r ++ [.int .u16 (x.port : Int), .bool x.up, .int .u16 (x.sw : Int), poV x.ports, poV x.edge, byV x.frame, hesV x.helds, .int .u16 (x.code : Int)])))) = true
  rw [nfs_app (nfs_ru x.r) (by simp only [nfs, nf, nf_po, nf_by, nf_hes, Bool.and_self])]
  rfl
theorem w_quietL {K0 : Nat} {R : List Nat} {E : Nat → List Nat} {L : List Nat} {Q : Ex → Env → Mem → Prop} {id : Nat} {l0 l : List Oper} {env : Env} {m : Mem} (hl : l0 = l) (h : runQ Try.prog l.toArray (Q .nrm) l env m) : W Try.prog K0 R (.region id l0.toArray true) E L env m Q := by
  subst hl
  exact w_quiet h
end Go.Proofs.Ytjjenpdjmcmgbaa
