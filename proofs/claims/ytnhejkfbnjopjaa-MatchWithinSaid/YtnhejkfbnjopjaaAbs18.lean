/- The evaluator's operations, a program's types taken out of them. No condition. -/
import Derived.Test.YtnhejkfbnjopjaaAbs17
namespace Go.Proofs.Ytnhejkfbnjopjaa.Ab
open Go
set_option linter.unusedSimpArgs false
set_option linter.unusedVariables false

def partK (agg : Bool) (sz : Nat) (l : List V) (off : Nat) : Option V :=
  bif agg then (if off + sz ≤ l.length then some (.agg ((l.drop off).take sz)) else none) else l[off]?

def loadK (agg : Bool) (sz : Nat) (m : Mem) (p : V) : Option V := match cellsAt m p with
  | some (l, off) => partK agg sz l off
  | none => none

def storeK (sz : Nat) (m : Mem) (p v : V) : Option Mem :=
  if (cellsOfV v).length = sz ∧ cellsB v = true then match p with
    | .ptr n off => match m[n]? with
      | some (.var ty l) => if off + (cellsOfV v).length ≤ l.length then some (m.set n (.var ty (splice l off (cellsOfV v)))) else none
      | _ => none
    | .ep sz n i off => match m[n]? with
      | some (.row ty sz' es) => if sz = sz' then (match es[i]? with
        | some e => if off + (cellsOfV v).length ≤ e.length then some (m.set n (.row ty sz' (es.set i (splice e off (cellsOfV v))))) else none
        | none => none) else none
      | _ => none
    | _ => none
  else none

def faddrK (o : Nat) (p : V) : Option V := match p with
  | .ptr n off => some (.ptr n (off + o))
  | .ep sz n i off => some (.ep sz n i (off + o))
  | .ip l => if o ≤ l.length then some (.ip (l.drop o)) else none
  | _ => none

def iaddrA (n s : Nat) (p q : V) : Option V := match q with
  | .int _ i => if 0 ≤ i ∧ i < n then (match p with
    | .ptr k off => some (.ptr k (off + i.toNat * s))
    | .ep sz k j off => some (.ep sz k j (off + i.toNat * s))
    | .ip l => some (.ip (l.drop (i.toNat * s)))
    | _ => none) else none
  | _ => none

def iaddrS (s : Nat) (p q : V) : Option V := match q with
  | .int _ i => match p with
    | .sl sz k off len => if 0 ≤ i ∧ i < len then (bif Nat.beq sz s then some (.ep sz k (off + i.toNat) 0) else none) else none
    | .isl sz es => if 0 ≤ i ∧ i < es.length then (bif Nat.beq sz s then (match es[i.toNat]? with
        | some e => some (.ip e)
        | none => none) else none) else none
    | _ => none
  | _ => none

def indexA (n : Nat) (agg : Bool) (s : Nat) (x q : V) : Option V := match x, q with
  | .agg l, .int _ i => if 0 ≤ i ∧ i < n then partK agg s l (i.toNat * s) else none
  | _, _ => none

def fieldK (agg : Bool) (sz off : Nat) (x : V) : Option V := match x with
  | .agg l => partK agg sz l off
  | _ => none

section
variable {P : Program} {m : Mem} {t : TypeId}

theorem loadV_of {agg : Bool} {sz : Nat} (h : ∀ l off, partV P t l off = partK agg sz l off) (p : V) : loadV P m t p = loadK agg sz m p := by
  unfold loadV loadK
  split <;> simp_all

theorem storeV_of {i : TypeInfo} (h : P.info? t = some i) (p v : V) : storeV P t m p v = storeK i.size m p v := by
  unfold storeV storeK
  rw [h]
  simp only
  by_cases h1 : (cellsOfV v).length = i.size ∧ cellsB v = true
  · rw [if_pos h1]
    have : (Nat.beq (cellsOfV v).length i.size && cellsB v) = true := by
      rw [Bool.and_eq_true]; exact ⟨by rw [h1.1]; simp, h1.2⟩
    rw [this]
    rfl
  · rw [if_neg h1]
    have : (Nat.beq (cellsOfV v).length i.size && cellsB v) = false := by
      cases hb : Nat.beq (cellsOfV v).length i.size && cellsB v with
      | false => rfl
      | true =>
        rw [Bool.and_eq_true] at hb
        exact absurd ⟨Nat.eq_of_beq_eq_true hb.1, hb.2⟩ h1
    rw [this]
    rfl

/-! ### Operations on numbers and truth values -/

theorem int_beq (a b : Int) : (a == b) = decide (a = b) := by rw [Bool.eq_iff_iff]; simp
theorem b_add (k : IntKind) (a b : Int) : binV P .add t (.int k a) (.int k b) = some (.int k (k.wrap (a + b))) := by simp [binV]
theorem b_sub (k : IntKind) (a b : Int) : binV P .sub t (.int k a) (.int k b) = some (.int k (k.wrap (a - b))) := by simp [binV]
theorem b_mul (k : IntKind) (a b : Int) : binV P .mul t (.int k a) (.int k b) = some (.int k (k.wrap (a * b))) := by simp [binV]
theorem b_and (k : IntKind) (a b : Int) : binV P .and t (.int k a) (.int k b) = some (.int k (bits .and k a b)) := by simp [binV]
theorem b_or (k : IntKind) (a b : Int) : binV P .or t (.int k a) (.int k b) = some (.int k (bits .or k a b)) := by simp [binV]
theorem b_xor (k : IntKind) (a b : Int) : binV P .xor t (.int k a) (.int k b) = some (.int k (bits .xor k a b)) := by simp [binV]
theorem b_andNot (k : IntKind) (a b : Int) : binV P .andNot t (.int k a) (.int k b) = some (.int k (bits .andNot k a b)) := by simp [binV]
theorem b_quo (k : IntKind) (a b : Int) : binV P .quo t (.int k a) (.int k b) = if b = 0 then none else some (.int k (k.wrap (a.tdiv b))) := by simp [binV]
theorem b_rem (k : IntKind) (a b : Int) : binV P .rem t (.int k a) (.int k b) = if b = 0 then none else some (.int k (a.tmod b)) := by simp [binV]
theorem b_eql (k : IntKind) (a b : Int) : binV P .eql t (.int k a) (.int k b) = some (.bool (decide (a = b))) := by simp only [binV, if_pos]; rw [int_beq]
theorem b_neq (k : IntKind) (a b : Int) : binV P .neq t (.int k a) (.int k b) = some (.bool (!decide (a = b))) := by simp only [binV, if_pos, bne, int_beq]
theorem b_lss (k : IntKind) (a b : Int) : binV P .lss t (.int k a) (.int k b) = some (.bool (decide (a < b))) := by simp [binV]
theorem b_leq (k : IntKind) (a b : Int) : binV P .leq t (.int k a) (.int k b) = some (.bool (decide (a ≤ b))) := by simp [binV]
theorem b_gtr (k : IntKind) (a b : Int) : binV P .gtr t (.int k a) (.int k b) = some (.bool (decide (b < a))) := by simp [binV]
theorem b_geq (k : IntKind) (a b : Int) : binV P .geq t (.int k a) (.int k b) = some (.bool (decide (b ≤ a))) := by simp [binV]
theorem b_shr (k k' : IntKind) (a b : Int) : binV P .shr t (.int k a) (.int k' b) = if b < 0 then none else some (.int k (a.fdiv (2 ^ (min b.toNat k.bits)))) := by simp [binV]
theorem b_shl (k k' : IntKind) (a b : Int) : binV P .shl t (.int k a) (.int k' b) = if b < 0 then none else some (.int k (k.wrap (a * 2 ^ (min b.toNat k.bits)))) := by simp [binV]

theorem pick_bool (t a b : Bool) : pickV t (.bool a) (.bool b) = .bool (bif t then a else b) := rfl
theorem pick_true (a b : V) : pickV true a b = a := by unfold pickV; split <;> rfl
theorem pick_false (a b : V) : pickV false a b = b := by unfold pickV; split <;> rfl

theorem u_not (b : Bool) : unV .not (.bool b) = some (.bool (!b)) := rfl

theorem newV_agg (l : List V) : newV t m (.agg l) = some (.ptr m.length 0, m ++ [.var t l]) := rfl
theorem newV_one {v : V} (h : oneV v = true) : newV t m v = some (.ptr m.length 0, m ++ [.var t [v]]) := by
  cases v <;> first | rfl | (simp [oneV] at h)

theorem splice_one {α : Type} {l : List α} {off : Nat} {c : α} (h : off < l.length) : splice l off [c] = l.set off c := by
  apply List.ext_getElem?
  intro j
  rw [splice_get (by simp; omega)]
  simp only [List.length_singleton]
  by_cases h1 : j = off
  · subst h1
    rw [if_neg (by omega), if_pos (by omega), List.getElem?_set_self h]; simp
  · rw [List.getElem?_set_ne (by omega)]
    split
    · rfl
    · rw [if_neg (by omega)]

theorem splice_all {α : Type} {l cs : List α} (h : cs.length = l.length) : splice l 0 cs = cs := by
  simp [splice, h]

/-! ### Values without names, told by lists -/

theorem nfs_ints (k : IntKind) (l : List Int) : nfs (l.map (V.int k)) = true := by
  induction l with
  | nil => rfl
  | cons x r ih => simp [nfs, nf, ih]
theorem nmss_ints (k : IntKind) (l : List Int) : nmss (l.map (V.int k)) = [] := by
  induction l with
  | nil => rfl
  | cons x r ih => simp [nmss, nms, ih]
theorem inDs_ints (D : Nat → Bool) (k : IntKind) (l : List Int) : inDs D (l.map (V.int k)) = true := by
  induction l with
  | nil => rfl
  | cons x r ih => simp [inDs, inD, ih]
theorem rens_ints (τ : Nat → Nat) (k : IntKind) (l : List Int) : rens τ (l.map (V.int k)) = l.map (V.int k) := rens_nf τ _ (nfs_ints k l)

end
mutual
theorem nf_inD (D : Nat → Bool) : ∀ v, nf v = true → inD D v = true
  | .ptr _ _, h => by simp [nf] at h
  | .ep _ _ _ _, h => by simp [nf] at h
  | .sl _ _ _ _, h => by simp [nf] at h
  | .mp _, h => by simp [nf] at h
  | .unk, h => by simp [nf] at h
  | .ip l, h => by simpa [nf, inD] using h
  | .isl _ es, h => by simpa [nf, inD] using h
  | .fn _ a b, h => by simp only [nf, Bool.and_eq_true] at h; simp only [inD, nfs_inDs D a h.1, nfs_inDs D b h.2, Bool.and_self]
  | .ifc _ v, h => by simp only [nf] at h; simp only [inD, nf_inD D v h]
  | .agg l, h => by simp only [nf] at h; simp only [inD, nfs_inDs D l h]
  | .tup l, h => by simp only [nf] at h; simp only [inD, nfs_inDs D l h]
  | .bool _, _ => rfl
  | .int _ _, _ => rfl
  | .str _, _ => rfl
  | .nilp, _ => rfl
  | .nils, _ => rfl
  | .nilm, _ => rfl
  | .nilf, _ => rfl
  | .nili, _ => rfl
theorem nfs_inDs (D : Nat → Bool) : ∀ l, nfs l = true → inDs D l = true
  | [], _ => rfl
  | v :: r, h => by simp only [nfs, Bool.and_eq_true] at h; simp only [inDs, nf_inD D v h.1, nfs_inDs D r h.2, Bool.and_self]
end
mutual
theorem nf_nms : ∀ v, nf v = true → nms v = []
  | .ptr _ _, h => by simp [nf] at h
  | .ep _ _ _ _, h => by simp [nf] at h
  | .sl _ _ _ _, h => by simp [nf] at h
  | .mp _, h => by simp [nf] at h
  | .unk, h => by simp [nf] at h
  | .ip _, _ => rfl
  | .isl _ _, _ => rfl
  | .fn _ a b, h => by simp only [nf, Bool.and_eq_true] at h; simp only [nms, nfs_nmss a h.1, nfs_nmss b h.2, List.append_nil]
  | .ifc _ v, h => by simp only [nf] at h; simp only [nms, nf_nms v h]
  | .agg l, h => by simp only [nf] at h; simp only [nms, nfs_nmss l h]
  | .tup l, h => by simp only [nf] at h; simp only [nms, nfs_nmss l h]
  | .bool _, _ => rfl
  | .int _ _, _ => rfl
  | .str _, _ => rfl
  | .nilp, _ => rfl
  | .nils, _ => rfl
  | .nilm, _ => rfl
  | .nilf, _ => rfl
  | .nili, _ => rfl
theorem nfs_nmss : ∀ l, nfs l = true → nmss l = []
  | [], _ => rfl
  | v :: r, h => by simp only [nfs, Bool.and_eq_true] at h; simp only [nmss, nf_nms v h.1, nfs_nmss r h.2, List.append_nil]
end

/-! ### Calls on values without names -/

/-- A contract of a function of values alone: it answers v. -/
def Ans (P : Program) (f : FuncId) (vs : List V) (v : V) : Prop := Snd P f vs [] fun r => ∃ m1, r = .ret v m1

theorem callD_ans {P : Program} {f : FuncId} {vs : List V} {m : Mem} {K Kp : V → Mem → Prop} {v : V} (h : Ans P f vs v) (he : enterable P f = true) (hn : nfs vs = true) (hv : nf v = true) (hk : K v m) : callD P f vs m K Kp := by
  have hroots : rootsV m vs = [] := by unfold rootsV; rw [nfs_nmss vs hn]; rfl
  unfold callD
  rw [hroots]
  refine ⟨?_, he, _, (by rw [rens_nf _ _ hn]; exact h), ?_⟩
  · simp [okCall, nfs_inDs _ vs hn, closedB, nodupB]
  · rintro r ⟨m1, rfl⟩
    simp [okRes, CR.val, CR.mem, hv, backV]
    exact hk

theorem stepV_ans {P : Program} {f : FuncId} {vs : List V} {m : Mem} {v : V} {o : Oper} {env : Env} (hc : calleeV (evO env) o.op = some (f, vs)) (h : Ans P f vs v) (he : enterable P f = true) (hn : nfs vs = true) (hv : nf v = true) : StepV P o env m v m := by
  have hroots : rootsV m vs = [] := by unfold rootsV; rw [nfs_nmss vs hn]; rfl
  unfold StepV
  rw [hc]
  simp only [hroots]
  refine ⟨?_, he, .inl ⟨rfl, hv, trivial, ?_⟩⟩
  · simp [okCall, nfs_inDs _ vs hn, closedB, nodupB]
  · rw [rens_nf _ _ hn]; exact h
end Go.Proofs.Ytnhejkfbnjopjaa.Ab
