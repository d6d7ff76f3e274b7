/- slices.DeleteFunc on a list of rules with their numbers. No condition. -/
import Derived.Test.YtffhmbdpmpgddaaWk
import Derived.Test.YtffhmbdpmpgddaaWm
namespace Go.Proofs.Ytffhmbdpmpgddaa
open Go Ab
set_option linter.unusedSimpArgs false
set_option linter.unusedVariables false
set_option maxRecDepth 20000

set_option maxHeartbeats 1000000 in
theorem snd30 {m : Mem} {b : Nat} {id : Int} {k : Int × Int} (hb : m[b]? = some (.var 3 [.int .i64 id])) :
    Snd Try.prog 30 [inA k, .ptr b 0] m fun q => q = .ret (.bool (decide (k.1 = id))) (m ++ [.var 65 (inC k)]) := by
  refine Snd_of_W fol rfl rfl (by kernel_rfl) (by kernel_rfl) ?_
  have hbl := (List.getElem?_eq_some_iff.1 hb).1
  have hb2 : (m ++ [B.var 65 (inC k)])[b]? = some (.var 3 [.int .i64 id]) := by rw [List.getElem?_append_left hbl]; exact hb
  have hk : (m ++ [B.var 65 (inC k)])[m.length]? = some (.var 65 (inC k)) := by simp
  have c0 : (inC k)[0]? = some (.int .i64 k.1) := rfl
  simp -implicitDefEqProofs only [sims.1, fx.1, keeps.1, tick_on, calleeK, extractV, oneV, faddrK, nonnil, b_shr, b_shl, fieldK, Nat.reduceAdd, Nat.reduceMul, Nat.reduceSub, Nat.reduceEqDiff, Nat.reduceLT, Nat.reduceLeDiff, Nat.reduceBEq, Nat.reduceBNe, reduceIte, Int.reduceEq, Int.reduceLT, Int.reduceLE, Int.reduceNe, Int.reduceToNat, inA]
  simp -implicitDefEqProofs only [sims.1, fx.1, keeps.1, tick_on, calleeK, extractV, oneV, faddrK, nonnil, b_shr, b_shl, fieldK, Nat.reduceAdd, Nat.reduceMul, Nat.reduceSub, Nat.reduceEqDiff, Nat.reduceLT, Nat.reduceLeDiff, Nat.reduceBEq, Nat.reduceBNe, reduceIte, Int.reduceEq, Int.reduceLT, Int.reduceLE, Int.reduceNe, Int.reduceToNat, hb2, hk, c0]
/-- Where a number stands first. -/
def fndI (id : Int) : List (Int × Int) → Nat → Int
  | [], _ => -1
  | x :: r, i => bif decide (x.1 = id) then (i : Int) else fndI id r (i + 1)
theorem fndI_drop {id : Int} : ∀ {l : List (Int × Int)} {j i : Nat}, (∀ x ∈ l.take j, decide (x.1 = id) = false) → fndI id l i = fndI id (l.drop j) (i + j)
  | l, 0, i, _ => rfl
  | [], j + 1, i, _ => by simp [fndI]
  | x :: r, j + 1, i, h => by
    have h1 := h x (by simp)
    simp only [fndI, h1, cond_false, List.drop_succ_cons]
    rw [fndI_drop (j := j) fun y hy => h y (by simp [hy])]
    congr 1
    omega
theorem fndI_some {id : Int} : ∀ {l : List (Int × Int)} {i : Nat}, (∃ x ∈ l, x.1 = id) → ∃ j, j < l.length ∧ fndI id l i = ((i + j : Nat) : Int) ∧ (l.take j).filter (fun x => !decide (x.1 = id)) = l.take j ∧ (l.take (j + 1)).filter (fun x => !decide (x.1 = id)) = l.take j
  | [], _, h => by obtain ⟨_, h, _⟩ := h; simp at h
  | x :: r, i, h => by
    cases e : decide (x.1 = id) with
    | true => exact ⟨0, by simp, by simp only [fndI, e, cond_true, Nat.add_zero], rfl, by simp [e]⟩
    | false =>
      obtain ⟨y, hy, hy2⟩ := h
      have hyr : ∃ y ∈ r, y.1 = id := by
        rcases List.mem_cons.1 hy with rfl | hy
        · simp [hy2] at e
        · exact ⟨y, hy, hy2⟩
      obtain ⟨j, h1, h2, h3, h4⟩ := fndI_some (i := i + 1) hyr
      refine ⟨j + 1, by simp; omega, ?_, ?_, ?_⟩
      · simp only [fndI, e, cond_false, h2]
        congr 1
        omega
      · simp only [List.take_succ_cons, List.filter_cons, e, Bool.not_false, if_true, h3]
      · simp only [List.take_succ_cons, List.filter_cons, e, Bool.not_false, if_true]
        rw [h4]
set_option maxHeartbeats 1000000 in
theorem snd39 {m : Mem} {b s : Nat} {id : Int} {l : List (Int × Int)} (hb : m[b]? = some (.var 3 [.int .i64 id])) (hs : m[s]? = some (.row 65 2 (l.map inC))) (hl : l.length < 1000000) :
    Snd Try.prog 39 [.sl 2 s 0 l.length, .fn 30 [] [.ptr b 0]] m fun q => ∃ X, q = .ret (.int .i64 (fndI id l 0)) (m ++ X) := by
  refine Snd_of_W fol rfl rfl (by kernel_rfl) (by kernel_rfl) ?_
  have lv : ∀ m : Mem, lenV Try.prog m 63 (.sl 2 s 0 l.length) = some (.int .i64 (l.length : Int)) := fun _ => rfl
  have hbl := (List.getElem?_eq_some_iff.1 hb).1
  have hsl := (List.getElem?_eq_some_iff.1 hs).1
  simp -implicitDefEqProofs only [sims.1, fx.1, keeps.1, tick_on, calleeK, extractV, oneV, faddrK, nonnil, b_shr, b_shl, fieldK, Nat.reduceAdd, Nat.reduceMul, Nat.reduceSub, Nat.reduceEqDiff, Nat.reduceLT, Nat.reduceLeDiff, Nat.reduceBEq, Nat.reduceBNe, reduceIte, Int.reduceEq, Int.reduceLT, Int.reduceLE, Int.reduceNe, Int.reduceToNat, lv]
  refine W_loopM (fun j : Nat => [(7, .int .i64 (l.length : Int)), (1, .fn 30 [] [.ptr b 0]), (0, .sl 2 s 0 l.length), (8, .int .i64 (j : Int))])
    (fun j mm => j ≤ l.length ∧ (∀ x ∈ l.take j, decide (x.1 = id) = false) ∧ ∃ X, mm = m ++ X) (fun j => l.length - j) 0 (by kernel_rfl) ⟨Nat.zero_le _, fun x hx => by simp at hx, [], by simp⟩ ?_
  rintro j mm ⟨hj, hall, X, rfl⟩
  rcases Nat.lt_or_ge j l.length with h1 | h1
  · have c1 : decide (j < l.length) = true := by simpa using h1
    have c7 := wrap_i64s j (by omega)
    have i1 : ∀ {kk : IntKind}, iaddrS 2 (.sl 2 s 0 l.length) (.int kk (j : Int)) = some (.ep 2 s j 0) := fun {_} => by rw [iaddrS_sl h1, Nat.zero_add]
    have hbX : (m ++ X)[b]? = some (.var 3 [.int .i64 id]) := by rw [List.getElem?_append_left hbl]; exact hb
    have l1 : loadK true 2 (m ++ X) (.ep 2 s j 0) = some (inA l[j]) := by
      rw [loadK_ep, List.getElem?_append_left hsl, hs]
      have : (l.map inC)[j]? = some (inC l[j]) := by simp [h1]
      simp only [Option.bind_some, if_true, this]
      rfl
    simp -implicitDefEqProofs only [sims.1, fx.1, keeps.1, tick_on, calleeK, extractV, oneV, faddrK, nonnil, b_shr, b_shl, fieldK, Nat.reduceAdd, Nat.reduceMul, Nat.reduceSub, Nat.reduceEqDiff, Nat.reduceLT, Nat.reduceLeDiff, Nat.reduceBEq, Nat.reduceBNe, reduceIte, Int.reduceEq, Int.reduceLT, Int.reduceLE, Int.reduceNe, Int.reduceToNat, ltNat, c1, i1, l1]
    refine callD_all (snd30 (k := l[j]) hbX) en30 ?_
    cases e : decide (l[j].1 = id)
    · simp -implicitDefEqProofs only [sims.1, fx.1, keeps.1, tick_on, calleeK, extractV, oneV, faddrK, nonnil, b_shr, b_shl, fieldK, Nat.reduceAdd, Nat.reduceMul, Nat.reduceSub, Nat.reduceEqDiff, Nat.reduceLT, Nat.reduceLeDiff, Nat.reduceBEq, Nat.reduceBNe, reduceIte, Int.reduceEq, Int.reduceLT, Int.reduceLE, Int.reduceNe, Int.reduceToNat, e, c7]
      refine ⟨j + 1, by kernel_rfl, ⟨h1, fun x hx => ?_, X ++ [.var 65 (inC l[j])], by rw [List.append_assoc]⟩, by omega⟩
      rw [List.take_add_one, List.getElem?_eq_getElem h1] at hx
      rcases List.mem_append.1 hx with hx | hx
      · exact hall x hx
      · simp at hx
        subst hx
        exact e
    · simp -implicitDefEqProofs only [sims.1, fx.1, keeps.1, tick_on, calleeK, extractV, oneV, faddrK, nonnil, b_shr, b_shl, fieldK, Nat.reduceAdd, Nat.reduceMul, Nat.reduceSub, Nat.reduceEqDiff, Nat.reduceLT, Nat.reduceLeDiff, Nat.reduceBEq, Nat.reduceBNe, reduceIte, Int.reduceEq, Int.reduceLT, Int.reduceLE, Int.reduceNe, Int.reduceToNat, e]
      refine ⟨X ++ [.var 65 (inC l[j])], ?_⟩
      rw [fndI_drop hall, List.drop_eq_getElem_cons h1]
      simp only [fndI, e, cond_true, Nat.zero_add, List.append_assoc]
  · have c1 : decide (j < l.length) = false := by simpa using h1
    simp -implicitDefEqProofs only [sims.1, fx.1, keeps.1, tick_on, calleeK, extractV, oneV, faddrK, nonnil, b_shr, b_shl, fieldK, Nat.reduceAdd, Nat.reduceMul, Nat.reduceSub, Nat.reduceEqDiff, Nat.reduceLT, Nat.reduceLeDiff, Nat.reduceBEq, Nat.reduceBNe, reduceIte, Int.reduceEq, Int.reduceLT, Int.reduceLE, Int.reduceNe, Int.reduceToNat, ltNat, c1]
    refine ⟨X, ?_⟩
    rw [fndI_drop hall, List.drop_eq_nil_of_le h1]
    rfl

theorem sl_from (s n a : Nat) (h : a ≤ n) : sliceV Try.prog 63 (.sl 2 s 0 n) (some (.int .i64 (a : Int))) none = some (.sl 2 s a (n - a)) := by
  have hu : Try.prog.underlying 63 = some (.slice 65) := by kernel_rfl
  have hi : ∃ i, Try.prog.info? 65 = some i ∧ i.size = 2 := by
    have h1 : (Try.prog.info? 65).map (·.size) = some 2 := by kernel_rfl
    rw [Option.map_eq_some_iff] at h1
    exact h1
  obtain ⟨i, h1, h2⟩ := hi
  simp only [sliceV, hu, h1, h2, bndV]
  simp
  omega
theorem sl_to (s n a : Nat) (h : a ≤ n) : sliceV Try.prog 63 (.sl 2 s 0 n) none (some (.int .i64 (a : Int))) = some (.sl 2 s 0 a) := by
  have hu : Try.prog.underlying 63 = some (.slice 65) := by kernel_rfl
  have hi : ∃ i, Try.prog.info? 65 = some i ∧ i.size = 2 := by
    have h1 : (Try.prog.info? 65).map (·.size) = some 2 := by kernel_rfl
    rw [Option.map_eq_some_iff] at h1
    exact h1
  obtain ⟨i, h1, h2⟩ := hi
  simp only [sliceV, hu, h1, h2, bndV]
  simp
  omega
theorem clear_in {m : Mem} {s a : Nat} {es : List (List V)} (h : m[s]? = some (.row 65 2 es)) (ha : a ≤ es.length) : clearV Try.prog 63 m (.sl 2 s a (es.length - a)) = some (m.set s (.row 65 2 (es.take a))) := by
  have hu : Try.prog.underlying 63 = some (.slice 65) := by kernel_rfl
  obtain ⟨z, b, h1, _⟩ := zE_of zE65
  have hb : Nat.ble es.length (a + (es.length - a)) = true := by simp; omega
  simp [clearV, hu, h1, h, hb]
theorem st_in {pre : Mem} {z : List V} (x : Int × Int) (hz : z.length = 2) : storeK 2 (pre ++ [.var 65 z]) (.ptr pre.length 0) (inA x) = some (pre ++ [.var 65 (inC x)]) := by
  have h : (pre ++ [B.var 65 z])[pre.length]? = some (B.var 65 z) := by simp
  have h1 : (cellsOfV (inA x)).length = 2 ∧ cellsB (inA x) = true := ⟨rfl, rfl⟩
  have h6 : 0 + (cellsOfV (inA x)).length ≤ z.length := by rw [hz]; exact Nat.le_refl 2
  unfold storeK
  rw [if_pos h1]
  simp only [h]
  rw [if_pos h6]
  have : splice z 0 (cellsOfV (inA x)) = inC x := splice_all (by rw [hz]; rfl)
  rw [this]
  simp
theorem st_at {m : Mem} {s i : Nat} {L : List (Int × Int)} (x : Int × Int) (h : m[s]? = some (.row 65 2 (L.map inC))) (hi : i < L.length) : storeK 2 m (.ep 2 s i 0) (inA x) = some (m.set s (.row 65 2 ((L.set i x).map inC))) := by
  have h1 : (cellsOfV (inA x)).length = 2 ∧ cellsB (inA x) = true := ⟨rfl, rfl⟩
  have h2 : (L.map inC)[i]? = some (inC L[i]) := by simp [hi]
  have h6 : 0 + (cellsOfV (inA x)).length ≤ (inC L[i]).length := Nat.le_refl 2
  unfold storeK
  rw [if_pos h1]
  simp only [h, h2, if_true]
  rw [if_pos h6]
  have : splice (inC L[i]) 0 (cellsOfV (inA x)) = inC x := splice_all rfl
  rw [this, List.map_set]
theorem trim_len {α : Type} {es : List α} {i : Nat} (h : i ≤ es.length) : (es.take i).length = i := by simp; omega
set_option maxHeartbeats 2000000 in
theorem snd29 {m : Mem} {b s : Nat} {id : Int} {l : List (Int × Int)} (hb : m[b]? = some (.var 3 [.int .i64 id])) (hs : m[s]? = some (.row 65 2 (l.map inC))) (hl : l.length < 1000000) (hin : ∃ x ∈ l, x.1 = id) :
    Snd Try.prog 29 [.sl 2 s 0 l.length, .fn 30 [] [.ptr b 0]] m fun q => ∃ m', q = .ret (.sl 2 s 0 (l.filter fun x => !decide (x.1 = id)).length) m' ∧ m'[s]? = some (.row 65 2 ((l.filter fun x => !decide (x.1 = id)).map inC)) ∧
      m.length ≤ m'.length ∧ ∀ k, k < m.length → k ≠ s → m'[k]? = m[k]? := by
  obtain ⟨f, hf⟩ : ∃ f : Int × Int → Bool, f = fun x => !decide (x.1 = id) := ⟨_, rfl⟩
  rw [← hf]
  obtain ⟨i0, hi0, hfi, ht0, ht1⟩ := fndI_some (l := l) (i := 0) hin
  rw [← hf] at ht0 ht1
  have s39 := snd39 hb hs hl
  rw [hfi, Nat.zero_add] at s39
  have lv : ∀ m : Mem, lenV Try.prog m 63 (.sl 2 s 0 l.length) = some (.int .i64 (l.length : Int)) := fun _ => rfl
  have hbl := (List.getElem?_eq_some_iff.1 hb).1
  have hsl := (List.getElem?_eq_some_iff.1 hs).1
  have hbs : b ≠ s := fun e => by rw [e, hs] at hb; cases hb
  have hm1 : decide ((i0 : Int) = -1) = false := by simp
  have w1 := wrap_i64s i0 (by omega)
  refine Snd_of_W fol rfl rfl (by kernel_rfl) (by kernel_rfl) ?_
  simp -implicitDefEqProofs only [sims.1, fx.1, keeps.1, tick_on, calleeK, extractV, oneV, faddrK, nonnil, b_shr, b_shl, fieldK, Nat.reduceAdd, Nat.reduceMul, Nat.reduceSub, Nat.reduceEqDiff, Nat.reduceLT, Nat.reduceLeDiff, Nat.reduceBEq, Nat.reduceBNe, reduceIte, Int.reduceEq, Int.reduceLT, Int.reduceLE, Int.reduceNe, Int.reduceToNat]
  refine callD_allQ s39 en39 ?_
  rintro r ⟨X, rfl⟩
  refine ⟨_, _, rfl, ?_⟩
  simp -implicitDefEqProofs only [sims.1, fx.1, keeps.1, tick_on, calleeK, extractV, oneV, faddrK, nonnil, b_shr, b_shl, fieldK, Nat.reduceAdd, Nat.reduceMul, Nat.reduceSub, Nat.reduceEqDiff, Nat.reduceLT, Nat.reduceLeDiff, Nat.reduceBEq, Nat.reduceBNe, reduceIte, Int.reduceEq, Int.reduceLT, Int.reduceLE, Int.reduceNe, Int.reduceToNat, hm1, w1]
  refine W_loopM (fun x : Nat × Nat => [(1, .fn 30 [] [.ptr b 0]), (6, .int .i64 (x.1 : Int)), (0, .sl 2 s 0 l.length), (5, .int .i64 (x.2 : Int))])
    (fun x mm => x.1 ≤ l.length ∧ x.2 < x.1 ∧ m.length ≤ mm.length ∧ (∀ k, k < m.length → k ≠ s → mm[k]? = m[k]?) ∧ ∃ L : List (Int × Int), mm[s]? = some (.row 65 2 (L.map inC)) ∧ L.length = l.length ∧ L.take x.2 = (l.take x.1).filter f ∧ L.drop x.1 = l.drop x.1)
    (fun x => l.length - x.1) (i0 + 1, i0) (by kernel_rfl) ⟨hi0, Nat.lt_succ_self _, by simp, fun k hk _ => List.getElem?_append_left hk, l, by rw [List.getElem?_append_left hsl]; exact hs, rfl, ht1.symm, rfl⟩ ?_
  rintro ⟨j, i⟩ mm ⟨hj, hij, hlen, hkeep, L, hes, hel, htk, hdr⟩
  simp only at hj hij htk hdr
  have htl := congrArg List.length htk
  rw [trim_len (by omega)] at htl
  have hlt := (List.getElem?_eq_some_iff.1 hes).1
  rcases Nat.lt_or_ge j l.length with h1 | h1
  · have c1 : decide (j < l.length) = true := by simpa using h1
    have c7 := wrap_i64s j (by omega)
    have c8 := wrap_i64s i (by omega)
    have i1 : ∀ {kk : IntKind}, iaddrS 2 (.sl 2 s 0 l.length) (.int kk (j : Int)) = some (.ep 2 s j 0) := fun {_} => by rw [iaddrS_sl h1, Nat.zero_add]
    have i2 : ∀ {kk : IntKind}, iaddrS 2 (.sl 2 s 0 l.length) (.int kk (i : Int)) = some (.ep 2 s i 0) := fun {_} => by rw [iaddrS_sl (by omega), Nat.zero_add]
    have hej : L[j]? = some l[j] := by
      have := congrArg (fun y => y[0]?) hdr
      simpa [h1] using this
    have l1 : loadK true 2 mm (.ep 2 s j 0) = some (inA l[j]) := by
      rw [loadK_ep, hes]
      simp only [Option.bind_some, if_true, List.getElem?_map, hej, Option.map_some]
      rfl
    have hb1 : (mm ++ [B.var 65 (inC l[j])])[b]? = some (.var 3 [.int .i64 id]) := by
      rw [List.getElem?_append_left (by omega), hkeep b hbl hbs]; exact hb
    have hst : storeK 2 (mm ++ [B.var 65 (cl .i64 2 fun _ => 0)]) (.ptr mm.length 0) (inA l[j]) = some (mm ++ [.var 65 (inC l[j])]) := st_in _ (cl_length ..)
    have pB : partK true 2 (inC l[j]) 0 = some (inA l[j]) := rfl
    have hB : (mm ++ [B.var 65 (inC l[j])])[mm.length]? = some (.var 65 (inC l[j])) := by simp
    have htake : l.take (j + 1) = l.take j ++ [l[j]] := by rw [List.take_add_one, List.getElem?_eq_getElem h1]; rfl
    simp -implicitDefEqProofs only [sims.1, fx.1, keeps.1, tick_on, calleeK, extractV, oneV, faddrK, nonnil, b_shr, b_shl, fieldK, Nat.reduceAdd, Nat.reduceMul, Nat.reduceSub, Nat.reduceEqDiff, Nat.reduceLT, Nat.reduceLeDiff, Nat.reduceBEq, Nat.reduceBNe, reduceIte, Int.reduceEq, Int.reduceLT, Int.reduceLE, Int.reduceNe, Int.reduceToNat, lv, ltNat, c1, i1, l1, hst, hB, pB]
    refine callD_all (snd30 (k := l[j]) hb1) en30 ?_
    have hk2 : ∀ k, k < mm.length → (mm ++ [B.var 65 (inC l[j])] ++ [B.var 65 (inC l[j])])[k]? = mm[k]? := fun k hk => by
      rw [List.append_assoc, List.getElem?_append_left hk]
    have hB2 : (mm ++ [B.var 65 (inC l[j])] ++ [B.var 65 (inC l[j])])[mm.length]? = some (.var 65 (inC l[j])) := by rw [List.getElem?_append_left (by simp)]; exact hB
    have hl2 : (mm ++ [B.var 65 (inC l[j])] ++ [B.var 65 (inC l[j])]).length = mm.length + 2 := by simp
    generalize mm ++ [B.var 65 (inC l[j])] ++ [B.var 65 (inC l[j])] = m2 at hk2 hB2 hl2 ⊢
    have hes2 : m2[s]? = some (.row 65 2 (L.map inC)) := by rw [hk2 s hlt]; exact hes
    have hkeep2 : ∀ k, k < m.length → k ≠ s → m2[k]? = m[k]? := fun k hk hn => by rw [hk2 k (by omega)]; exact hkeep k hk hn
    cases e : decide (l[j].1 = id)
    · have hst2 := st_at l[j] hes2 (show i < L.length by omega)
      simp -implicitDefEqProofs only [sims.1, fx.1, keeps.1, tick_on, calleeK, extractV, oneV, faddrK, nonnil, b_shr, b_shl, fieldK, Nat.reduceAdd, Nat.reduceMul, Nat.reduceSub, Nat.reduceEqDiff, Nat.reduceLT, Nat.reduceLeDiff, Nat.reduceBEq, Nat.reduceBNe, reduceIte, Int.reduceEq, Int.reduceLT, Int.reduceLE, Int.reduceNe, Int.reduceToNat, e, hB2, pB, i2, hst2, c7, c8]
      refine ⟨(j + 1, i + 1), by kernel_rfl, ⟨h1, by simp only; omega, by omega, fun k hk hn => by rw [List.getElem?_set_ne (Ne.symm hn)]; exact hkeep2 k hk hn, L.set i l[j], List.getElem?_set_self (by omega), by rw [List.length_set]; exact hel, ?_, ?_⟩, by simp only; omega⟩
      · simp only
        rw [htake, List.filter_append, List.filter_cons, show f l[j] = true by rw [hf]; simp only [e]; rfl, if_pos rfl, List.filter_nil, ← htk]
        apply List.ext_getElem?
        intro k
        rw [List.getElem?_take]
        rcases Nat.lt_trichotomy k i with hk | hk | hk
        · rw [if_pos (by omega), List.getElem?_set_ne (by omega), List.getElem?_append_left (by rw [trim_len (by omega)]; exact hk), List.getElem?_take, if_pos hk]
        · subst hk
          rw [if_pos (by omega), List.getElem?_set_self (by omega), List.getElem?_append_right (by rw [trim_len (by omega)]; omega), trim_len (by omega), Nat.sub_self]
          rfl
        · rw [if_neg (by omega), List.getElem?_eq_none]
          rw [List.length_append, trim_len (by omega)]
          simp; omega
      · simp only
        rw [List.drop_set_of_lt (by omega)]
        have := congrArg (List.drop 1) hdr
        rwa [List.drop_drop, List.drop_drop] at this
    · simp -implicitDefEqProofs only [sims.1, fx.1, keeps.1, tick_on, calleeK, extractV, oneV, faddrK, nonnil, b_shr, b_shl, fieldK, Nat.reduceAdd, Nat.reduceMul, Nat.reduceSub, Nat.reduceEqDiff, Nat.reduceLT, Nat.reduceLeDiff, Nat.reduceBEq, Nat.reduceBNe, reduceIte, Int.reduceEq, Int.reduceLT, Int.reduceLE, Int.reduceNe, Int.reduceToNat, e, c7]
      refine ⟨(j + 1, i), by kernel_rfl, ⟨h1, by simp only; omega, by omega, hkeep2, L, hes2, hel, ?_, ?_⟩, by simp only; omega⟩
      · simp only
        rw [htake, List.filter_append, List.filter_cons, show f l[j] = false by rw [hf]; simp only [e]; rfl, if_neg (by simp), List.filter_nil, List.append_nil]
        exact htk
      · simp only
        have := congrArg (List.drop 1) hdr
        rwa [List.drop_drop, List.drop_drop] at this
  · have c1 : decide (j < l.length) = false := by simpa using h1
    have hjl : j = l.length := by omega
    subst hjl
    rw [List.take_length] at htk htl
    have hil : i ≤ l.length := by omega
    have hcl := clear_in (a := i) hes (by rw [List.length_map]; omega)
    rw [List.length_map, hel, ← List.map_take, htk] at hcl
    simp -implicitDefEqProofs only [sims.1, fx.1, keeps.1, tick_on, calleeK, extractV, oneV, faddrK, nonnil, b_shr, b_shl, fieldK, Nat.reduceAdd, Nat.reduceMul, Nat.reduceSub, Nat.reduceEqDiff, Nat.reduceLT, Nat.reduceLeDiff, Nat.reduceBEq, Nat.reduceBNe, reduceIte, Int.reduceEq, Int.reduceLT, Int.reduceLE, Int.reduceNe, Int.reduceToNat, lv, ltNat, c1, x_clear, sl_from _ _ _ hil, sl_to _ _ _ hil, hcl]
    refine ⟨_, ?_, List.getElem?_set_self hlt, by rw [List.length_set]; exact hlen, fun k hk hn => by rw [List.getElem?_set_ne (Ne.symm hn)]; exact hkeep k hk hn⟩
    rw [htl]
end Go.Proofs.Ytffhmbdpmpgddaa
