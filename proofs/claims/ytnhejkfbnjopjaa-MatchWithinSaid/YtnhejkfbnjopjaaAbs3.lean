/- The evaluator's operations that touch no memory, and that they answer as the machine does. No condition. -/
import Derived.Test.YtnhejkfbnjopjaaAbs2
import Derived.DeepKeys
import Derived.Laws.Cover3
namespace Go.Proofs.Ytnhejkfbnjopjaa.Ab
open Go
set_option linter.unusedSimpArgs false
set_option linter.unusedVariables false

def cellV : Value → V
  | .bool b => .bool b
  | .int k n => .int k n
  | .string s => .str s
  | .pointer none => .nilp
  | .slice none 0 0 => .nils
  | .map none => .nilm
  | .nilFunc => .nilf
  | .nilIface => .nili
  | _ => .unk

def one1 : Value → Bool
  | .agg _ => false
  | .tuple _ => false
  | _ => true

theorem one1_iff {v : Value} (h : one1 v = true) : v.oneCell' = true := by cases v <;> first | rfl | (simp [one1] at h)

def constV : Value → V
  | .agg cs => bif cs.toList.all one1 then .agg (cs.toList.map cellV) else .unk
  | .tuple cs => .tup (cs.toList.map cellV)
  | .func (.func f) a b => if a.isEmpty && b.isEmpty then .fn f [] [] else .unk
  | v => cellV v

theorem RV_cellV (N : Nat) (ρ : Pl) (I : Nat → Prop) (w : World) (v : Value) : RV N ρ I w (cellV v) v := by
  unfold cellV
  split <;> simp [RV]

theorem RV_constV (N : Nat) (ρ : Pl) (I : Nat → Prop) (w : World) (v : Value) : RV N ρ I w (constV v) v := by
  unfold constV
  split
  · rename_i cs
    cases hc : cs.toList.all one1 with
    | false => simp [RV]
    | true =>
      simp only [cond_true, RV]
      refine ⟨cs, rfl, by simp, Rc.mk fun i v hv => ?_⟩
      simp only [List.getElem?_map, Option.map_eq_some_iff] at hv
      obtain ⟨x, h1, rfl⟩ := hv
      exact ⟨x, by simpa using h1, one1_iff (List.all_eq_true.1 hc x (List.mem_of_getElem? h1)), RV_cellV _ _ _ _ _⟩
  · rename_i cs
    simp only [RV]
    refine ⟨cs, rfl, by simp, Rt.mk fun i v hv => ?_⟩
    simp only [List.getElem?_map, Option.map_eq_some_iff] at hv
    obtain ⟨x, h1, rfl⟩ := hv
    exact ⟨x, by simpa using h1, RV_cellV _ _ _ _ _⟩
  · rename_i f a b
    split
    · rename_i h
      simp only [Bool.and_eq_true, Array.isEmpty_iff] at h
      obtain ⟨rfl, rfl⟩ := h
      simp only [RV]
      exact ⟨#[], #[], rfl, rfl, by simp [Rt], rfl, by simp [Rt]⟩
    · simp [RV]
  · exact RV_cellV _ _ _ _ _

abbrev Env := Nat → V

def upd (e : Env) (d : Nat) (v : V) : Env := fun t => bif Nat.beq d t then v else e t

def put (e : Env) (d : Option Nat) (v : V) : Env := match d with
  | some d => upd e d v
  | none => e

def evO (e : Env) : Operand → V
  | .tmp t => e t
  | .const v => constV v
  | .global _ => .unk
  | .func f => .fn f [] []

/-- The scalar's own value. -/
def toVal : V → Option Value
  | .bool b => some (.bool b)
  | .int k n => some (.int k n)
  | .str s => some (.string s)
  | _ => none

theorem RV_toVal {N : Nat} {ρ : Pl} {I : Nat → Prop} {w : World} {v : V} {x y : Value} (h : RV N ρ I w v x) (hv : toVal v = some y) : x = y := by
  cases v <;> simp_all [toVal, RV]

def litsV (P : Program) (t : TypeId) (l : List V) : Option (List Lit) := (l.mapM toVal).bind (P.keyLits 9 t)

def litEq : Lit → Lit → Bool
  | .bool a, .bool b => a == b
  | .int j a, .int k b => decide (j = k) && decide (a = b)
  | .float j a, .float k b => decide (j = k) && decide (a = b)
  | .string a, .string b => a == b
  | .nil, .nil => true
  | _, _ => false

theorem litEq_iff (a b : Lit) : litEq a b = true ↔ a = b := by
  cases a <;> cases b <;> simp [litEq]

def litsEq : List Lit → List Lit → Bool
  | [], [] => true
  | a :: r, b :: s => litEq a b && litsEq r s
  | _, _ => false

theorem litsEq_iff : ∀ (a b : List Lit), litsEq a b = true ↔ a = b
  | [], [] => by simp [litsEq]
  | [], _ :: _ => by simp [litsEq]
  | _ :: _, [] => by simp [litsEq]
  | a :: r, b :: s => by simp [litsEq, litEq_iff, litsEq_iff r s]

def isAggT (P : Program) (t : TypeId) : Bool := match P.underlying t with
  | some (.struct _) | some (.array _ _) => true
  | _ => false

def isBoolT (P : Program) (t : TypeId) : Bool := match P.underlying t with
  | some .bool => true
  | _ => false

def eqV (P : Program) (t : TypeId) : V → V → Option Bool
  | .bool a, .bool b => bif isBoolT P t then some (a == b) else none
  | .agg a, .agg b => bif P.keyTypeAt 8 t && (!P.eqGuardType P.depth t && isAggT P t) then
      match litsV P t a, litsV P t b with
      | some la, some lb => some (litsEq la lb)
      | _, _ => none
    else none
  | .nilp, .nilp => match P.underlying t with | some (.pointer _) => some true | _ => none
  | .nilp, .ptr _ _ => match P.underlying t with | some (.pointer _) => some false | _ => none
  | .ptr _ _, .nilp => match P.underlying t with | some (.pointer _) => some false | _ => none
  | .ep _ _ _ _, .nilp => match P.underlying t with | some (.pointer _) => some false | _ => none
  | .nils, .nils => match P.underlying t with | some (.slice _) => some true | _ => none
  | .sl _ _ _ _, .nils => match P.underlying t with | some (.slice _) => some false | _ => none
  | .nilm, .nilm => match P.underlying t with | some (.map _ _) => some true | _ => none
  | .mp _, .nilm => match P.underlying t with | some (.map _ _) => some false | _ => none
  | .nilf, .nilf => match P.underlying t with | some (.func _ _ _) => some true | _ => none
  | .fn _ _ _, .nilf => match P.underlying t with | some (.func _ _ _) => some false | _ => none
  | .ifc _ _, .nili => match P.underlying t with | some (.interface _) => some false | _ => none
  | _, _ => none

def binV (P : Program) (op : BinOp) (t : TypeId) : V → V → Option V
  | .int k a, .int k' b => match op with
    | .shl => if b < 0 then none else some (.int k (k.wrap (a * 2 ^ (min b.toNat k.bits))))
    | .shr => if b < 0 then none else some (.int k (a.fdiv (2 ^ (min b.toNat k.bits))))
    | op => if k = k' then match op with
      | .add => some (.int k (k.wrap (a + b)))
      | .sub => some (.int k (k.wrap (a - b)))
      | .mul => some (.int k (k.wrap (a * b)))
      | .quo => if b = 0 then none else some (.int k (k.wrap (a.tdiv b)))
      | .rem => if b = 0 then none else some (.int k (a.tmod b))
      | .and => some (.int k (bits .and k a b))
      | .or => some (.int k (bits .or k a b))
      | .xor => some (.int k (bits .xor k a b))
      | .andNot => some (.int k (bits .andNot k a b))
      | .eql => some (.bool (a == b))
      | .neq => some (.bool (a != b))
      | .lss => some (.bool (decide (a < b)))
      | .leq => some (.bool (decide (a ≤ b)))
      | .gtr => some (.bool (decide (a > b)))
      | .geq => some (.bool (decide (a ≥ b)))
      | _ => none
      else none
  | .str a, .str b => match op with
    | .eql => some (.bool (a.toList == b.toList))
    | .neq => some (.bool (!(a.toList == b.toList)))
    | _ => none
  | x, y => match op with
    | .eql => (eqV P t x y).map .bool
    | .neq => (eqV P t x y).map fun b => .bool (!b)
    | _ => none

section
variable {P : Program} {N : Nat} {ρ : Pl} {I : Nat → Prop} {w : World}

theorem mapM_toVal : ∀ {l : List V} {c : Array Value} {o : Nat} {xs : List Value}, Rc N ρ I w l c o → l.mapM toVal = some xs → (c.toList.drop o).take l.length = xs
  | [], c, o, xs, _, h => by simp at h; simp [h]
  | v :: r, c, o, xs, hr, h => by
    rw [List.mapM_cons] at h
    simp only [bind, Option.bind_eq_some_iff, pure, Option.some.injEq] at h
    obtain ⟨y, h1, ys, h2, rfl⟩ := h
    simp only [Rc] at hr
    obtain ⟨⟨x, h3, _, h4⟩, h5⟩ := hr
    have := mapM_toVal h5 h2
    have hx := RV_toVal h4 h1
    subst hx
    have hd : c.toList.drop o = x :: c.toList.drop (o + 1) := by
      have hlt : o < c.toList.length := by
        have := (Array.getElem?_eq_some_iff.1 h3).1
        simpa using this
      rw [List.drop_eq_getElem_cons hlt]
      congr 1
      have := (Array.getElem?_eq_some_iff.1 h3).2
      simpa using this
    rw [hd, List.length_cons, List.take_succ_cons, this]

theorem litsV_sound {t : TypeId} {l : List V} {c : Array Value} {ls : List Lit} (hlen : l.length = c.size) (hr : Rc N ρ I w l c 0) (h : litsV P t l = some ls) : P.keyLits 9 t c.toList = some ls := by
  unfold litsV at h
  simp only [Option.bind_eq_some_iff] at h
  obtain ⟨xs, h1, h2⟩ := h
  have := mapM_toVal hr h1
  rw [List.drop_zero, hlen, ← Array.length_toList, List.take_length] at this
  rw [this]; exact h2

theorem formed_of_lits {t : TypeId} {c : Array Value} {ls : List Lit} (h : P.keyLits 9 t c.toList = some ls) (hk : isAggT P t = true) : (Value.agg c).formed P t = true := by
  unfold isAggT at hk
  unfold Program.keyLits at h
  split at hk
  · rename_i fs hu
    rw [hu] at h
    simp only at h
    split at h
    · rename_i hc; simp [Value.formed, hu]; simpa using hc.1
    · cases h
  · rename_i n e hu
    rw [hu] at h
    simp only at h
    split at h
    · rename_i hc; simp [Value.formed, hu]; simpa using hc
    · cases h
  · cases hk

theorem equal_agg {t : TypeId} {a b : Array Value} {la lb : List Lit} (ha : P.keyLits 9 t a.toList = some la) (hb : P.keyLits 9 t b.toList = some lb)
    (hk : isAggT P t = true) (hk2 : P.keyTypeAt 8 t = true) : (Op.equal t (.agg a) (.agg b)).run P w = .ok (litsEq la lb) w := by
  obtain ⟨r, h1, h2⟩ := run_equalIn_deep (P := P) 9992 8 t hk2 w 9 9 (.agg a) (.agg b) la lb (formed_of_lits ha hk) (formed_of_lits hb hk) ha hb
  have : r = litsEq la lb := by
    rw [Bool.eq_iff_iff, h2, litsEq_iff]
  rw [← this]
  exact h1

theorem equal_at (t : TypeId) (a b : Value) (r : Bool) (h : ∀ d, (Op.equalIn (d + 1) t a b).run P w = .ok r w) : (Op.equal t a b).run P w = .ok r w := h 9999

theorem guard_plain (op : BinOp) (t : TypeId) (ox oy : Operand) (a b : Value) (h : (match a, b with | .nilIface, .nilIface | .agg _, .agg _ => false | _, _ => true) = true) :
    (eqGuard op t ox oy a b).run P w = .ok () w := by
  cases op <;> simp [eqGuard] <;> (split <;> simp_all)

/-- Operands that are compared: what '==' gives, and that the guard ahead of it lets them by. -/
structure Eqs (P : Program) (w : World) (t : TypeId) (a b : Value) (r : Bool) : Prop where
  equal : (Op.equal t a b).run P w = .ok r w
  guard : ∀ op ox oy, (eqGuard op t ox oy a b).run P w = .ok () w
  eql : (binOp .eql t a b).run P w = .ok (.bool r) w
  neq : (binOp .neq t a b).run P w = .ok (.bool (!r)) w

theorem eqV_sound {t : TypeId} {x y : V} {a b : Value} {r : Bool} (ha : RV N ρ I w x a) (hb : RV N ρ I w y b) (h : eqV P t x y = some r) : Eqs P w t a b r := by
  have fin : ∀ {a b : Value} {r : Bool}, (Op.equal t a b).run P w = .ok r w → (∀ op ox oy, (eqGuard op t ox oy a b).run P w = .ok () w) →
      binOp .eql t a b = (do pure (.bool (← Op.equal t a b))) → binOp .neq t a b = (do pure (.bool (!(← Op.equal t a b)))) → Eqs P w t a b r :=
    fun h1 h2 h3 h4 => ⟨h1, h2, by rw [h3]; simp [h1], by rw [h4]; simp [h1]⟩
  unfold eqV at h
  split at h
  · simp only [RV] at ha hb
    subst ha; subst hb
    unfold isBoolT at h
    split at h
    · rename_i hu
      simp only [cond_true, Option.some.injEq] at h
      subst h
      exact fin (equal_at _ _ _ _ fun d => by simp [Op.equalIn, run_underlying hu]) (fun _ _ _ => guard_plain _ _ _ _ _ _ rfl) rfl rfl
    · simp at h
  · simp only [RV] at ha hb
    obtain ⟨ca, rfl, h1, h2⟩ := ha
    obtain ⟨cb, rfl, h3, h4⟩ := hb
    cases hc : P.keyTypeAt 8 t && (!P.eqGuardType P.depth t && isAggT P t) with
    | false => rw [hc] at h; simp at h
    | true =>
      rw [hc] at h
      simp only [cond_true] at h
      simp only [Bool.and_eq_true, Bool.not_eq_true'] at hc
      split at h
      · rename_i la lb hla hlb
        cases h
        exact fin (equal_agg (litsV_sound h1 h2 hla) (litsV_sound h3 h4 hlb) hc.2.2 hc.1) (fun op ox oy => run_eqGuard_agg w op t ox oy ca cb hc.2.1) rfl rfl
      · cases h
  all_goals
    first
    | (cases h; done)
    | skip
  all_goals
    split at h
    · rename_i hu
      cases h
      simp only [RV] at ha hb
      first
      | (obtain ⟨_, ha⟩ := ha; obtain ⟨_, hb⟩ := hb; subst ha; subst hb; exact fin (equal_at _ _ _ _ fun d => by simp [Op.equalIn, run_underlying hu]) (fun _ _ _ => guard_plain _ _ _ _ _ _ rfl) rfl rfl)
      | (obtain ⟨_, ha⟩ := ha; subst ha; subst hb; exact fin (equal_at _ _ _ _ fun d => by simp [Op.equalIn, run_underlying hu]) (fun _ _ _ => guard_plain _ _ _ _ _ _ rfl) rfl rfl)
      | (obtain ⟨_, hb⟩ := hb; subst ha; subst hb; exact fin (equal_at _ _ _ _ fun d => by simp [Op.equalIn, run_underlying hu]) (fun _ _ _ => guard_plain _ _ _ _ _ _ rfl) rfl rfl)
      | (subst ha; subst hb; exact fin (equal_at _ _ _ _ fun d => by simp [Op.equalIn, run_underlying hu]) (fun _ _ _ => guard_plain _ _ _ _ _ _ rfl) rfl rfl)
      | (obtain ⟨_, _, _, ha, _⟩ := ha; subst ha; subst hb; exact fin (equal_at _ _ _ _ fun d => by simp [Op.equalIn, run_underlying hu]) (fun _ _ _ => guard_plain _ _ _ _ _ _ rfl) rfl rfl)
      | (obtain ⟨_, _, ha, _⟩ := ha; subst ha; subst hb; exact fin (equal_at _ _ _ _ fun d => by simp [Op.equalIn, run_underlying hu]) (fun _ _ _ => guard_plain _ _ _ _ _ _ rfl) rfl rfl)
      | (obtain ⟨_, ha, _⟩ := ha; subst ha; subst hb; exact fin (equal_at _ _ _ _ fun d => by simp [Op.equalIn, run_underlying hu]) (fun _ _ _ => guard_plain _ _ _ _ _ _ rfl) rfl rfl)
    · cases h

theorem binV_sound {op : BinOp} {t : TypeId} {x y : V} {a b : Value} {v : V} (ha : RV N ρ I w x a) (hb : RV N ρ I w y b) (h : binV P op t x y = some v) (ox oy : Operand) :
    ∃ c, (do eqGuard op t ox oy a b; binOp op t a b : Sem Value).run P w = .ok c w ∧ RV N ρ I w v c := by
  unfold binV at h
  split at h
  · simp only [RV] at ha hb
    subst ha; subst hb
    have hg : ∀ op ox oy, ∀ k a k' b, (eqGuard op t ox oy (.int k a) (.int k' b)).run P w = .ok () w := fun op ox oy k a k' b => guard_plain op t ox oy _ _ rfl
    simp only [Sem.run_bind, hg, Result.andThen_ok]
    split at h
    · split at h
      · cases h
      · rename_i hn
        cases h
        refine ⟨_, ?_, rfl⟩
        simp [binOp, Op.shift, hn]
    · split at h
      · cases h
      · rename_i hn
        cases h
        refine ⟨_, ?_, rfl⟩
        simp [binOp, Op.shift, hn]
    · rename_i h1 h2
      split at h
      · rename_i hk
        subst hk
        cases op <;> first
          | (exact absurd rfl h1)
          | (exact absurd rfl h2)
          | skip
        all_goals simp only at h
        case quo => split at h
                    · cases h
                    · rename_i hz; cases h; exact ⟨_, by simp [binOp, Op.intDiv, hz], rfl⟩
        case rem => split at h
                    · cases h
                    · rename_i hz; cases h; exact ⟨_, by simp [binOp, Op.intDiv, hz], rfl⟩
        all_goals
          cases h
          exact ⟨_, by simp [binOp, Op.intArith, Op.intCmp, intBits_and, intBits_or, intBits_xor, intBits_andNot]; try rfl, rfl⟩
      · cases h
  · simp only [RV] at ha hb
    subst ha; subst hb
    simp only [Sem.run_bind, guard_plain op t ox oy (.string _) (.string _) rfl, Result.andThen_ok]
    split at h
    · cases h
      exact ⟨_, by simp [binOp, Op.stringOp], rfl⟩
    · cases h
      exact ⟨_, by simp [binOp, Op.stringOp], rfl⟩
    · cases h
  · split at h
    · rw [Option.map_eq_some_iff] at h
      obtain ⟨r, h1, rfl⟩ := h
      have e := eqV_sound ha hb h1
      exact ⟨.bool r, by simp [Sem.run_bind, e.guard, e.eql], rfl⟩
    · rw [Option.map_eq_some_iff] at h
      obtain ⟨r, h1, rfl⟩ := h
      have e := eqV_sound ha hb h1
      exact ⟨.bool (!r), by simp [Sem.run_bind, e.guard, e.neq], rfl⟩
    · cases h

def unV : UnOp → V → Option V
  | .not, .bool b => some (.bool (!b))
  | .neg, .int k n => some (.int k (k.wrap (0 - n)))
  | .xor, .int k n => some (.int k (bits .xor k (if k.signed then -1 else k.max) n))
  | _, _ => none

theorem unV_sound {op : UnOp} {x v : V} {a : Value} (ha : RV N ρ I w x a) (h : unV op x = some v) : ∃ c, (Op.unary op a).run P w = .ok c w ∧ RV N ρ I w v c := by
  unfold unV at h
  split at h <;> first
    | (cases h; done)
    | (simp only [RV] at ha; subst ha; cases h; exact ⟨_, by simp [Op.unary, Op.intArith, intBits_xor], rfl⟩)

def convV (P : Program) (src dst : TypeId) : V → Option V
  | .int k n => match P.underlying src, P.underlying dst with
    | some _, some (.int k') => some (.int k' (k'.wrap n))
    | _, _ => none
  | _ => none

theorem convV_sound {src dst : TypeId} {x v : V} {a : Value} (ha : RV N ρ I w x a) (h : convV P src dst x = some v) : ∃ c, (convert src dst a).run P w = .ok c w ∧ RV N ρ I w v c := by
  unfold convV at h
  split at h
  · simp only [RV] at ha
    subst ha
    split at h
    · rename_i h1 h2
      cases h
      exact ⟨_, by simp [convert, run_underlying h1, run_underlying h2, Conv.intToInt], rfl⟩
    · cases h
  · cases h

def extractV (i : Nat) : V → Option V
  | .tup l => l[i]?
  | _ => none

theorem extractV_sound {i : Nat} {x v : V} {a : Value} (ha : RV N ρ I w x a) (h : extractV i x = some v) : ∃ c, (Instr.extract a i).run P w = .ok c w ∧ RV N ρ I w v c := by
  unfold extractV at h
  split at h
  · simp only [RV] at ha
    obtain ⟨c, rfl, h1, h2⟩ := ha
    obtain ⟨y, h3, h4⟩ := h2.get i v h
    exact ⟨y, by simp only [Nat.zero_add] at h3; simp [Instr.extract, h3], h4⟩
  · cases h

/-- A part of cells, by a type. -/
def partV (P : Program) (t : TypeId) (l : List V) (off : Nat) : Option V :=
  bif isAggT P t then
    match P.info? t with
    | some i => if off + i.size ≤ l.length then some (.agg ((l.drop off).take i.size)) else none
    | none => none
  else match P.underlying t with
    | some _ => l[off]?
    | none => none

theorem run_isAgg_true {t : TypeId} (h : isAggT P t = true) : (isAgg t).run P w = .ok true w := by
  unfold isAggT at h
  unfold isAgg
  split at h
  · rename_i hu; simp [run_underlying hu]
  · rename_i hu; simp [run_underlying hu]
  · cases h

theorem run_isAgg_false {t : TypeId} {d : TypeDesc} (hd : P.underlying t = some d) (h : isAggT P t = false) : (isAgg t).run P w = .ok false w := by
  unfold isAggT at h
  unfold isAgg
  rw [hd] at h
  cases d <;> simp_all [run_underlying hd]

theorem Rc.drop {l : List V} {c : Array Value} {o : Nat} (h : Rc N ρ I w l c o) (k : Nat) : Rc N ρ I w (l.drop k) c (o + k) :=
  Rc.mk fun i v hv => by
    rw [List.getElem?_drop] at hv
    obtain ⟨x, h1, h2⟩ := h.get _ v hv
    exact ⟨x, by rw [← h1]; congr 1; omega, h2⟩

theorem Rc.take {l : List V} {c : Array Value} {o : Nat} (h : Rc N ρ I w l c o) (k : Nat) : Rc N ρ I w (l.take k) c o :=
  Rc.mk fun i v hv => h.get i v (by
    rw [List.getElem?_take] at hv
    split at hv
    · exact hv
    · cases hv)

theorem Rc.bound : ∀ {l : List V} {c : Array Value} {o : Nat}, Rc N ρ I w l c o → l = [] ∨ o + l.length ≤ c.size
  | [], _, _, _ => .inl rfl
  | v :: r, c, o, h => by
    right
    obtain ⟨x, h1, _⟩ := h.get r.length ((v :: r)[r.length]'(by simp)) (by simp)
    have := (Array.getElem?_eq_some_iff.1 h1).1
    simp; omega

theorem Rc.extract {l : List V} {c : Array Value} {off sz : Nat} (h : Rc N ρ I w l c 0) (hl : l.length = c.size) (hb : off + sz ≤ l.length) :
    RV N ρ I w (.agg ((l.drop off).take sz)) (.agg (c.extract off (off + sz))) := by
  simp only [RV]
  refine ⟨_, rfl, by simp; omega, Rc.mk fun i v hv => ?_⟩
  have hi : i < sz := by
    have := (List.getElem?_eq_some_iff.1 hv).1
    simp at this; omega
  rw [List.getElem?_take, if_pos hi, List.getElem?_drop] at hv
  obtain ⟨x, h1, h2⟩ := h.get _ v hv
  refine ⟨x, ?_, h2⟩
  rw [Array.getElem?_extract, if_pos (by omega), ← h1]
  congr 1
  omega

theorem partV_sound {t : TypeId} {l : List V} {c : Array Value} {off : Nat} {v : V} (hr : Rc N ρ I w l c 0) (hl : l.length = c.size) (h : partV P t l off = some v) :
    ∃ x, (part t c off).run P w = .ok x w ∧ RV N ρ I w v x := by
  unfold partV at h
  cases ha : isAggT P t with
  | true =>
    rw [ha] at h
    simp only [cond_true] at h
    split at h
    · rename_i i hi
      split at h
      · rename_i hb
        cases h
        exact ⟨_, by simp [part, run_isAgg_true ha, sizeOf, typeInfo, hi], hr.extract hl hb⟩
      · cases h
    · cases h
  | false =>
    rw [ha] at h
    simp only [cond_false] at h
    split at h
    · rename_i d hd
      obtain ⟨x, h1, _, h2⟩ := hr.get off v h
      exact ⟨x, by simp only [Nat.zero_add] at h1; simp [part, run_isAgg_false hd ha, h1], h2⟩
    · cases h

def fieldAtT (P : Program) (t : TypeId) (f : Nat) : Option Field :=
  match P.underlying t with
  | some (.struct fs) => fs[f]?
  | _ => none

def fieldV (P : Program) (t : TypeId) (f : Nat) : V → Option V
  | .agg l => match fieldAtT P t f with
    | some fd => partV P fd.type l fd.offset
    | none => none
  | _ => none

theorem fieldV_sound {t : TypeId} {f : Nat} {x v : V} {a : Value} (ha : RV N ρ I w x a) (h : fieldV P t f x = some v) : ∃ c, (Instr.field t a f).run P w = .ok c w ∧ RV N ρ I w v c := by
  unfold fieldV at h
  split at h
  · simp only [RV] at ha
    obtain ⟨c, rfl, h1, h2⟩ := ha
    split at h
    · rename_i fd hfd
      unfold fieldAtT at hfd
      split at hfd
      · rename_i fs hu
        obtain ⟨y, h3, h4⟩ := partV_sound h2 h1 h
        exact ⟨y, by simp [Instr.field, run_underlying hu, hfd, asAgg, h3], h4⟩
      · cases hfd
    · cases h
  · cases h

def indexV (P : Program) (t : TypeId) : V → V → Option V
  | .agg l, .int _ i => match P.underlying t with
    | some (.array n e) => if 0 ≤ i ∧ i < n then match P.info? e with
        | some inf => partV P e l (i.toNat * inf.size)
        | none => none
      else none
    | _ => none
  | .str s, .int _ i => match P.underlying t with
    | some .string => if 0 ≤ i then match s[i.toNat]? with
        | some b => some (.int .u8 b.toNat)
        | none => none
      else none
    | _ => none
  | _, _ => none

theorem indexV_sound {t : TypeId} {x y v : V} {a b : Value} (ha : RV N ρ I w x a) (hb : RV N ρ I w y b) (h : indexV P t x y = some v) :
    ∃ c, (Instr.index t a b).run P w = .ok c w ∧ RV N ρ I w v c := by
  unfold indexV at h
  split at h
  · simp only [RV] at ha hb
    obtain ⟨c, rfl, h1, h2⟩ := ha
    subst hb
    split at h
    · rename_i n e hu
      split at h
      · rename_i hi
        split at h
        · rename_i inf hinf
          obtain ⟨z, h3, h4⟩ := partV_sound h2 h1 h
          exact ⟨z, by simp [Instr.index, asIntOf, run_underlying hu, hi, sizeOf, typeInfo, hinf, h3], h4⟩
        · cases h
      · cases h
    · cases h
  · simp only [RV] at ha hb
    subst ha; subst hb
    split at h
    · rename_i hu
      split at h
      · rename_i hi
        split at h
        · rename_i b hb
          cases h
          exact ⟨_, by simp [Instr.index, asIntOf, run_underlying hu, hi, hb], rfl⟩
        · cases h
      · cases h
    · cases h
  · cases h
end
end Go.Proofs.Ytnhejkfbnjopjaa.Ab
