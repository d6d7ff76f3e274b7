/- Caches, told by values. No condition. -/
import Derived.Test.YtnhejkfbnjopjaaFx
namespace Go.Proofs.Ytnhejkfbnjopjaa
open Go Ab
set_option linter.unusedSimpArgs false
set_option linter.unusedVariables false
set_option maxRecDepth 20000

/-! ### Headers -/
abbrev Hd := Nat → Nat
def U64h (h : Hd) : Prop := ∀ i, i < 11 → h i < 18446744073709551616
def hdC (h : Hd) : List V := cl .u64 11 fun i => (h i : Int)
def hdA (h : Hd) : V := .agg (hdC h)
theorem hd_len (h : Hd) : (hdC h).length = 11 := by simp [hdC]
theorem nfs_hd (h : Hd) : nfs (hdC h) = true := nfs_cl
theorem nf_hdA (h : Hd) : nf (hdA h) = true := nfs_hd h
theorem part_hd (h : Hd) : partK true 11 (hdC h) 0 = some (.agg (hdC h)) := partK_row (hd_len h)
theorem sh24 : shp Try.prog 9 24 = some ((List.range 11).map fun _ => Sh.ti .u64) := by kernel_rfl
theorem key24 : (Try.prog.keyTypeAt 8 24 && (!Try.prog.eqGuardType Try.prog.depth 24 && isAggT Try.prog 24)) = true := by kernel_rfl
theorem key24a : isAggT Try.prog 24 = true := by kernel_rfl
theorem key24b : Try.prog.keyTypeAt 8 24 = true := by kernel_rfl
theorem inK_hd {h : Hd} (hh : U64h h) : inK .u64 11 fun i => (h i : Int) := by
  intro i hi
  have := hh i hi
  simp [Lit.wf, IntKind.min, IntKind.max, IntKind.bits, IntKind.signed]
  omega
def eqH (h g : Hd) : Bool := eqN 11 (fun i => (h i : Int)) fun i => (g i : Int)
theorem eqH_iff {h g : Hd} : eqH h g = true ↔ ∀ i, i < 11 → h i = g i := by
  unfold eqH
  rw [eqN_iff]
  exact ⟨fun h i hi => by have := h i hi; omega, fun h i hi => by have := h i hi; omega⟩
theorem eqH_refl (h : Hd) : eqH h h = true := eqH_iff.2 fun _ _ => rfl
theorem eqH_symm {h g : Hd} (e : eqH h g = true) : eqH g h = true := eqH_iff.2 fun i hi => (eqH_iff.1 e i hi).symm
theorem eqH_trans {a b c : Hd} (e : eqH a b = true) (f : eqH b c = true) : eqH a c = true := eqH_iff.2 fun i hi => (eqH_iff.1 e i hi).trans (eqH_iff.1 f i hi)
theorem eq24 (h g : Hd) (hh : U64h h) (hg : U64h g) : eqV Try.prog 24 (.agg (hdC h)) (.agg (hdC g)) = some (eqH h g) := eqV_cl2 key24 sh24 (inK_hd hh) (inK_hd hg)
theorem key_hd (h : Hd) (hh : U64h h) : keyV Try.prog 24 (.agg (hdC h)) = true := by
  have := litsV_fit sh24 (fitV_cl (inK_hd hh))
  simp only [keyV, key24a, key24b, Bool.true_and]
  unfold hdC
  rw [this]
  rfl

/-! ### Places -/
structure Ent where
  h : Hd
  id : Int
  turn : Nat
  mark : Bool
  full : Bool
def e0 : Ent := ⟨fun _ => 0, 0, 0, false, false⟩
def enC (e : Ent) : List V := hdC e.h ++ [.int .i64 e.id, .int .i64 (e.turn : Int), .bool e.mark, .bool e.full]
theorem en_len (e : Ent) : (enC e).length = 15 := by simp [enC, hd_len]
theorem nfs_en (e : Ent) : nfs (enC e) = true := rfl
theorem nfs_ens : ∀ l : List Ent, nfss (l.map enC) = true
  | [] => rfl
  | a :: r => by simp [nfss, nfs_en, nfs_ens r]
theorem ec11 (e : Ent) : (enC e)[11]? = some (.int .i64 e.id) := rfl
theorem ec12 (e : Ent) : (enC e)[12]? = some (.int .i64 (e.turn : Int)) := rfl
theorem ec13 (e : Ent) : (enC e)[13]? = some (.bool e.mark) := rfl
theorem ec14 (e : Ent) : (enC e)[14]? = some (.bool e.full) := rfl
theorem en_hd (e : Ent) : partK true 11 (enC e) 0 = some (.agg (hdC e.h)) := rfl
theorem en_all (e : Ent) : partK true 15 (enC e) 0 = some (.agg (enC e)) := partK_row (en_len e)
theorem en_id (e : Ent) (i : Int) : splice (enC e) 11 [.int .i64 i] = enC { e with id := i } := rfl
theorem en_turn (e : Ent) (t : Nat) : splice (enC e) 12 [.int .i64 (t : Int)] = enC { e with turn := t } := rfl
theorem en_mark (e : Ent) (b : Bool) : splice (enC e) 13 [.bool b] = enC { e with mark := b } := rfl
theorem en_put (e e' : Ent) : splice (enC e) 0 (enC e') = enC e' := by rw [splice_all]; rw [en_len, en_len]
theorem rows_at {l : List Ent} {k : Nat} (h : k < l.length) : (l.map enC)[k]? = some (enC l[k]) := by simp [h]
theorem rows_set (l : List Ent) (k : Nat) (e : Ent) : (l.map enC).set k (enC e) = (l.set k e).map enC := by rw [List.map_set]

/-! ### Stores to a row's element -/
theorem st_ep {m : Mem} {n i off ty : Nat} {es : List (List V)} {e : List V} {sz : Nat} {v : V} (hv : oneV v = true) (hm : m[n]? = some (.row ty sz es)) (he : es[i]? = some e) (ho : off < e.length) :
    storeK 1 m (.ep sz n i off) v = some (m.set n (.row ty sz (es.set i (splice e off [v])))) := by
  have hc : cellsOfV v = [v] := by cases v <;> first | rfl | (simp [oneV] at hv)
  have hb : cellsB v = true := by cases v <;> first | rfl | (simp [oneV] at hv)
  unfold storeK
  rw [hc, hb]
  simp only [List.length_singleton, and_self, if_true, hm, he]
  rw [if_pos (by omega)]
theorem st_epA {m : Mem} {n i ty : Nat} {es : List (List V)} {e cs : List V} {sz : Nat} (hm : m[n]? = some (.row ty sz es)) (he : es[i]? = some e) (hc : cs.length = sz) (ho : e.length = sz) :
    storeK sz m (.ep sz n i 0) (.agg cs) = some (m.set n (.row ty sz (es.set i (splice e 0 cs)))) := by
  subst hc
  unfold storeK
  have h1 : (cellsOfV (V.agg cs)).length = cs.length ∧ cellsB (V.agg cs) = true := ⟨rfl, rfl⟩
  rw [if_pos h1]
  simp only [hm, he, if_true]
  exact if_pos (show 0 + (cellsOfV (V.agg cs)).length ≤ e.length by show 0 + cs.length ≤ e.length; omega)
theorem iaS {k n : Nat} {kk : IntKind} (h : k < n) : iaddrS 15 (.sl 15 1 0 n) (.int kk (k : Int)) = some (.ep 15 1 k 0) := by
  rw [iaddrS_sl h, Nat.zero_add]

/-! ### The map -/
def atC (p : Hd × Nat) : V × V := (.agg (hdC p.1), .int .i64 (p.2 : Int))
def atFind (h : Hd) : List (Hd × Nat) → Nat → Option (Nat × Nat)
  | [], _ => none
  | p :: r, i => bif eqH h p.1 then some (i, p.2) else atFind h r (i + 1)
def U64at (l : List (Hd × Nat)) : Prop := ∀ p ∈ l, U64h p.1
theorem findV_at {h : Hd} (hh : U64h h) : ∀ {l : List (Hd × Nat)} {i : Nat}, U64at l → findV Try.prog 24 (.agg (hdC h)) (l.map atC) i = some ((atFind h l i).map fun x => (x.1, V.int .i64 (x.2 : Int)))
  | [], _, _ => rfl
  | p :: r, i, hl => by
    simp only [List.map_cons, atC, findV, eq24 h p.1 hh (hl p (by simp)), atFind]
    cases eqH h p.1 with
    | true => rfl
    | false => exact findV_at hh fun q hq => hl q (by simp [hq])
theorem un61 : Try.prog.underlying 61 = some (.map 24 3) := by kernel_rfl
theorem zero3 : zeroV Try.prog 3 = some (.int .i64 0) := by kernel_rfl
def lookR (h : Hd) (l : List (Hd × Nat)) : V := match atFind h l 0 with
  | some (_, k) => .tup [.int .i64 (k : Int), .bool true]
  | none => .tup [.int .i64 0, .bool false]
theorem look_at {m : Mem} {n : Nat} {h : Hd} {l : List (Hd × Nat)} (hm : m[n]? = some (.map (l.map atC))) (hh : U64h h) (hl : U64at l) : lookupV Try.prog 61 m (.mp n) (.agg (hdC h)) true = some (lookR h l) := by
  simp only [lookupV, un61, key_hd h hh, cond_true, hm, findV_at hh hl, lookR]
  cases atFind h l 0 with
  | none => simp [zero3]
  | some p => rfl
theorem put_at {m : Mem} {n : Nat} {h : Hd} {l : List (Hd × Nat)} {k : Nat} (hm : m[n]? = some (.map (l.map atC))) (hh : U64h h) (hl : U64at l) (hf : atFind h l 0 = none) :
    putV Try.prog 61 m (.mp n) (.agg (hdC h)) (.int .i64 (k : Int)) = some (m.set n (.map ((l ++ [(h, k)]).map atC))) := by
  simp only [putV, un61, key_hd h hh, cond_true, hm, findV_at hh hl, hf, Option.map_none, List.map_append, List.map_cons, List.map_nil]
  rfl
theorem map_erase {α β : Type} (f : α → β) : ∀ (l : List α) (i : Nat), (l.map f).eraseIdx i = (l.eraseIdx i).map f
  | [], _ => by simp
  | _ :: _, 0 => rfl
  | a :: r, i + 1 => by simp [map_erase f r i]
def atDel (h : Hd) (l : List (Hd × Nat)) : List (Hd × Nat) := match atFind h l 0 with
  | some (i, _) => l.eraseIdx i
  | none => l
theorem del_at {m : Mem} {n : Nat} {h : Hd} {l : List (Hd × Nat)} (hm : m[n]? = some (.map (l.map atC))) (hh : U64h h) (hl : U64at l) :
    delV Try.prog 61 m (.mp n) (.agg (hdC h)) = some (m.set n (.map ((atDel h l).map atC))) := by
  simp only [delV, un61, key_hd h hh, cond_true, hm, findV_at hh hl, atDel]
  cases atFind h l 0 with
  | none => rfl
  | some p => simp only [Option.map_some, map_erase]
end Go.Proofs.Ytnhejkfbnjopjaa
