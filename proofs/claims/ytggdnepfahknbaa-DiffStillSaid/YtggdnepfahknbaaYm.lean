/- What is told between two lists of rules, as the program finds it. No condition. -/
import Derived.Test.YtggdnepfahknbaaYj
import Derived.Test.YtggdnepfahknbaaYk
import Derived.Test.YtggdnepfahknbaaYl
namespace Go.Proofs.Ytggdnepfahknbaa
open Go Ab
set_option linter.unusedSimpArgs false
set_option linter.unusedVariables false
set_option maxRecDepth 20000

/-- Copies as memory holds them: none is nil. -/
def cN (l : List (List Act)) : V := match l with
  | [] => .nils
  | c :: r => cpsV (c :: r)
def ruN (r : Ru) : List V := .int .i64 r.rank :: (mC r.w ++ [cN r.l, .int .u64 (r.ck : Int)])
def meN (x : Me) : List V := .int .i8 5 :: .int .u32 0 :: .int .i8 x.d :: (ruN x.r ++ [.int .u16 0, .bool false, .int .u16 0, .nils, .nils, .nils, .nils, .int .u16 0])
theorem nf_cN : ∀ l, nf (cN l) = true
  | [] => rfl
  | c :: r => nf_cps (c :: r)
theorem nfs_app {a b : List V} (ha : nfs a = true) (hb : nfs b = true) : nfs (a ++ b) = true := by
  induction a with
  | nil => exact hb
  | cons x l ih =>
    simp only [nfs, Bool.and_eq_true] at ha
    simp only [List.cons_append, nfs, ha.1, ih ha.2, Bool.and_self]
theorem nfs_mC (w : Nat → Nat) : nfs (mC w) = true := nfs_cl
theorem nfs_ruN (r : Ru) : nfs (ruN r) = true := by
  have h := nfs_app (nfs_mC r.w) (show nfs [cN r.l, .int .u64 (r.ck : Int)] = true by simp only [nfs, nf_cN, nf, Bool.and_self])
  simp only [ruN, nfs, nf, h, Bool.and_self]
theorem nfs_meN (x : Me) : nfs (meN x) = true := by
  have := nfs_app (nfs_ruN x.r) (show nfs [.int .u16 0, .bool false, .int .u16 0, .nils, .nils, .nils, .nils, .int .u16 0] = true from rfl)
  simp only [meN, nfs, nf, this, Bool.and_self]

def mV (n q : Nat) : V := match n with
  | 0 => .nils
  | k + 1 => .sl 36 q 0 (k + 1)
def RowM (mm : Mem) (q : Nat) (o : List Me) : Prop := o ≠ [] → mm[q]? = some (.row 45 36 (o.map meN))
theorem zE45 : ((zeroE Try.prog 45).map fun x => (x.2.1, Nat.ble x.2.2 1000)) = some (36, true) := by kernel_rfl
theorem un26 : Try.prog.underlying 26 = some (.slice 45) := by kernel_rfl
theorem app_me {mm : Mem} {q : Nat} {o : List Me} (x : Me) (h : RowM mm q o) (hl : o.length ≤ 200000) :
    ∃ mm', appendA Try.prog 26 26 (mV o.length q) (.sl 36 mm.length 0 1) (mm ++ [.row 45 36 [meN x]]) = some (mV (o.length + 1) (mm.length + 1), mm') ∧ mm'.length = mm.length + 2 ∧ RowM mm' (mm.length + 1) (o ++ [x]) ∧ ∀ k, k < mm.length → (k ≠ q ∨ o = []) → mm'[k]? = mm[k]? := by
  obtain ⟨mm', h1, h2, h3, h4⟩ := app_any (t := 26) (e := 45) (s := 36) (by kernel_rfl) zE45 (by kernel_rfl) (mm := mm) (q := q) (l := o.map meN) (v := mV o.length q) (meN x) (by
    cases o with
    | nil => exact .inl ⟨rfl, rfl⟩
    | cons a l => exact .inr ⟨by simp, by rw [List.length_map]; rfl, h (by simp)⟩) (by rw [List.length_map]; exact hl)
  rw [List.length_map] at h1
  refine ⟨mm', h1, h2, fun _ => by rw [h3]; simp, fun k hk hn => h4 k hk (hn.imp id fun e => by rw [e]; rfl)⟩
/-- A message of what is built and frozen. -/
theorem bs26 {x : Me} {c : List V} {m m' : Mem} (hf : frzQ Try.prog 45 m [(0, .agg c)] = some ([(0, .agg (meN x))], m')) : bsliceV Try.prog 26 1 [(0, .agg c)] m = some (.sl 36 m'.length 0 1, m' ++ [.row 45 36 [meN x]]) := by
  have h1 : ((zeroE Try.prog 45).map fun x => (x.1.length, x.2.1)) = some (36, 36) := by kernel_rfl
  unfold bsliceV
  cases hz : zeroE Try.prog 45 with
  | none => rw [hz] at h1; cases h1
  | some z =>
    obtain ⟨z0, z1, z2⟩ := z
    rw [hz] at h1
    simp at h1
    obtain ⟨h2, rfl⟩ := h1
    simp only [un26, hz, hf]
    rfl
theorem st54n (mm : Mem) (z : List V) (r : Ru) (hz : z.length = 23) : storeK 23 (mm ++ [.var 54 z]) (.ptr mm.length 0) (.agg (plC r)) = some (mm ++ [.var 54 (plC r)]) := by
  have h1 : (cellsOfV (.agg (plC r))).length = 23 ∧ cellsB (.agg (plC r)) = true := ⟨rfl, rfl⟩
  have h6 : 0 + (cellsOfV (.agg (plC r))).length ≤ z.length := by rw [hz]; exact Nat.le_refl 23
  have h0 : (mm ++ [B.var 54 z])[mm.length]? = some (.var 54 z) := by simp
  unfold storeK
  rw [if_pos h1]
  simp only [h0]
  rw [if_pos h6]
  have : splice z 0 (cellsOfV (.agg (plC r))) = plC r := splice_all (by rw [hz]; rfl)
  rw [this]
  simp
theorem st25n (mm : Mem) (z c : List V) (hz : z.length = 25) (hc : c.length = 25) : storeK 25 (mm ++ [.var 36 z]) (.ptr mm.length 0) (.agg c) = some (mm ++ [.var 36 c]) := by
  have h1 : (cellsOfV (.agg c)).length = 25 ∧ cellsB (.agg c) = true := ⟨hc, rfl⟩
  have h6 : 0 + (cellsOfV (.agg c)).length ≤ z.length := by rw [hz]; show 0 + c.length ≤ 25; omega
  have h0 : (mm ++ [B.var 36 z])[mm.length]? = some (.var 36 z) := by simp
  unfold storeK
  rw [if_pos h1]
  simp only [h0]
  rw [if_pos h6]
  have : splice z 0 (cellsOfV (.agg c)) = c := splice_all (by rw [hz]; exact hc)
  rw [this]
  simp
def zR : List V := .int .i64 0 :: (mC (fun _ => 0) ++ [.nils, .int .u64 0])
theorem z36 : zeroV Try.prog 36 = some (.agg zR) := by kernel_rfl
theorem b36 (r : Ru) : buildV Try.prog 36 [(0, .int .i64 r.rank), (1, .agg (mC r.w))] = some (.agg (ruN (plR r))) := by kernel_rfl
theorem b45r (r : Ru) : buildV Try.prog 45 [(0, .int .i8 5), (2, .int .i8 3), (3, .agg (ruN (plR r)))] = some (.agg (meN ⟨3, plR r⟩)) := by kernel_rfl
theorem b45a (r : Ru) (c : V) : buildV Try.prog 45 [(0, .int .i8 5), (2, .int .i8 0), (3, .agg (.int .i64 r.rank :: (mC r.w ++ [c, .int .u64 (r.ck : Int)])))] = some (.agg (.int .i8 5 :: .int .u32 0 :: .int .i8 0 :: ((.int .i64 r.rank :: (mC r.w ++ [c, .int .u64 (r.ck : Int)])) ++ [.int .u16 0, .bool false, .int .u16 0, .nils, .nils, .nils, .nils, .int .u16 0]))) := by kernel_rfl
/-! ### What is frozen -/
theorem frz_nf (m : Mem) {v : V} (h : nf v = true) : frz m v = some (v, m) := by
  cases v <;> first | rfl | (simp [nf] at h)
theorem frzL_nf (m : Mem) : ∀ {l : List V}, nfs l = true → frzL m l = some (l, m)
  | [], _ => rfl
  | v :: r, h => by
    simp only [nfs, Bool.and_eq_true] at h
    simp only [frzL, frz_nf m h.1, frzL_nf m h.2]
theorem frzL_mid {m m' : Mem} {v v' : V} {b : List V} (hv : frz m v = some (v', m')) (hb : nfs b = true) : ∀ {a : List V}, nfs a = true → frzL m (a ++ v :: b) = some (a ++ v' :: b, m')
  | [], _ => by simp only [List.nil_append, frzL, hv, frzL_nf m' hb]
  | x :: r, h => by
    simp only [nfs, Bool.and_eq_true] at h
    simp only [List.cons_append, frzL, frz_nf m h.1, frzL_mid hv hb h.2]
theorem keep45 : keepNames Try.prog 45 = false := by kernel_rfl
theorem frzQ_45 {m m' : Mem} {c c' : List V} (h : frzL m c = some (c', m')) : frzQ Try.prog 45 m [(0, .agg c)] = some ([(0, .agg c')], m') := by
  simp only [frzQ, frzP, frzV, h, keep45, cond_false]
def cV (n q : Nat) : V := match n with
  | 0 => .nils
  | k + 1 => .sl 1 q 0 (k + 1)
def RowC (mm : Mem) (q : Nat) (o : List (List Act)) : Prop := o ≠ [] → mm[q]? = some (.row 46 1 (o.map fun c => [cpV c]))
def midR (r : Ru) (c : V) : List V := .int .i64 r.rank :: (mC r.w ++ [c, .int .u64 (r.ck : Int)])
def meR (r : Ru) (c : V) : List V := .int .i8 5 :: .int .u32 0 :: .int .i8 0 :: (midR r c ++ [.int .u16 0, .bool false, .int .u16 0, .nils, .nils, .nils, .nils, .int .u16 0])
theorem frz_me {m : Mem} {r : Ru} {q : Nat} (h : RowC m q r.l) : ∃ m', frzQ Try.prog 45 m [(0, .agg (meR r (cV r.l.length q)))] = some ([(0, .agg (meN ⟨0, r⟩))], m') ∧ m'.length = m.length ∧ ∀ k, k ≠ q → m'[k]? = m[k]? := by
  have ha : nfs (.int .i8 5 :: .int .u32 0 :: .int .i8 0 :: .int .i64 r.rank :: mC r.w) = true := by
    simp only [nfs, nf, nfs_mC, Bool.and_self]
  have hb : nfs (.int .u64 (r.ck : Int) :: [.int .u16 0, .bool false, .int .u16 0, .nils, .nils, .nils, .nils, .int .u16 0]) = true := rfl
  have sp : ∀ c : V, meR r c = (.int .i8 5 :: .int .u32 0 :: .int .i8 0 :: .int .i64 r.rank :: mC r.w) ++ c :: (.int .u64 (r.ck : Int) :: [.int .u16 0, .bool false, .int .u16 0, .nils, .nils, .nils, .nils, .int .u16 0]) := fun c => rfl
  have en : meN ⟨0, r⟩ = meR r (cN r.l) := rfl
  rw [en]
  cases hl : r.l with
  | nil =>
    refine ⟨m, frzQ_45 ?_, rfl, fun _ _ => rfl⟩
    rw [sp, sp]
    exact frzL_mid (frz_nf m rfl) hb ha
  | cons c l =>
    rw [hl] at h
    have hm := h (by simp)
    refine ⟨m.set q .dead, frzQ_45 ?_, by simp, fun k hk => List.getElem?_set_ne (Ne.symm hk)⟩
    rw [sp, sp]
    refine frzL_mid ?_ hb ha
    show frz m (.sl 1 q 0 (l.length + 1)) = some (cpsV (c :: l), m.set q .dead)
    have hlen : (((c :: l).map fun c => [cpV c])).length = l.length + 1 := by simp
    simp only [frz, hm]
    rw [hlen, Nat.zero_add]
    simp only [Nat.beq_refl, Nat.ble_self_eq_true, Bool.and_self, cond_true, List.drop_zero]
    rw [List.take_of_length_le (by rw [hlen]; exact Nat.le_refl _)]
    rfl
theorem b45m (r : Ru) (c : V) : buildV Try.prog 45 [(0, .int .i8 5), (2, .int .i8 0), (3, .agg (midR r c))] = some (.agg (meR r c)) := by kernel_rfl
theorem zE46 : ((zeroE Try.prog 46).map fun x => (x.2.1, Nat.ble x.2.2 1000)) = some (1, true) := by kernel_rfl
theorem un34 : Try.prog.underlying 34 = some (.slice 46) := by kernel_rfl
theorem bs34 (c : List Act) (m : Mem) : bsliceV Try.prog 34 1 [(0, cpV c)] m = some (.sl 1 m.length 0 1, m ++ [.row 46 1 [[cpV c]]]) := by
  have h1 : ((zeroE Try.prog 46).map fun x => (x.1.length, x.2.1)) = some (1, 1) := by kernel_rfl
  have hs : stys ([(0, cpV c)].map (·.2)) = true := by
    have : nfs [cpV c] = true := nfs_cons (nf_cp c) rfl
    simp [stys, this]
  unfold bsliceV
  cases hz : zeroE Try.prog 46 with
  | none => rw [hz] at h1; cases h1
  | some z =>
    obtain ⟨z0, z1, z2⟩ := z
    rw [hz] at h1
    simp at h1
    obtain ⟨h2, rfl⟩ := h1
    simp only [un34, hz, frzQ_nf _ m hs]
    rfl
theorem app_cp {mm : Mem} {q : Nat} {o : List (List Act)} (c : List Act) (h : RowC mm q o) (hl : o.length ≤ 200000) :
    ∃ mm', appendA Try.prog 34 34 (cV o.length q) (.sl 1 mm.length 0 1) (mm ++ [.row 46 1 [[cpV c]]]) = some (cV (o.length + 1) (mm.length + 1), mm') ∧ mm'.length = mm.length + 2 ∧ RowC mm' (mm.length + 1) (o ++ [c]) ∧ ∀ k, k < mm.length → (k ≠ q ∨ o = []) → mm'[k]? = mm[k]? := by
  obtain ⟨mm', h1, h2, h3, h4⟩ := app_any (t := 34) (e := 46) (s := 1) (by kernel_rfl) zE46 (by kernel_rfl) (mm := mm) (q := q) (l := o.map fun c => [cpV c]) (v := cV o.length q) [cpV c] (by
    cases o with
    | nil => exact .inl ⟨rfl, rfl⟩
    | cons a l => exact .inr ⟨by simp, by rw [List.length_map]; rfl, h (by simp)⟩) (by rw [List.length_map]; exact hl)
  rw [List.length_map] at h1
  refine ⟨mm', h1, h2, fun _ => by rw [h3]; simp, fun k hk hn => h4 k hk (hn.imp id fun e => by rw [e]; rfl)⟩
end Go.Proofs.Ytggdnepfahknbaa
