/- Questions are answered as the document says; the stage's theorem. No condition. -/
import Derived.Test.YtpmbhjmlghoogaaPc
namespace Go.Proofs.Ytpmbhjmlghoogaa
open Go Ab
set_option linter.unusedSimpArgs false
set_option linter.unusedVariables false
set_option maxRecDepth 20000

/-- A call on a value and a packet whose body is a row of the caller's. -/
theorem callD_pk2 {f : FuncId} {m : Mem} {K Kp : V → Mem → Prop} {h : Hd} {n q : Nat} {c : List Nat} {k : IntKind} {a : Int} {v : V} (hs : AnsB Try.prog f [.int k a, pkA h c] v) (he : enterable Try.prog f = true) (hv : nf v = true) (hm : m[n]? = some (rowB c)) (hq : q = c.length) (hk : K v m) : callD Try.prog f [.int k a, .agg (pcC h (.sl 1 n 0 q))] m K Kp := by
  have hlt : n < m.length := (List.getElem?_eq_some_iff.1 hm).1
  have hg : m.getD n .dead = rowB c := by simp [List.getD, hm]
  have hnm : nmss [.int k a, .agg (pcC h (.sl 1 n 0 q))] = [n] := by
    simp only [nmss, nms, pcC, hdC, cl, List.append_nil]
    rfl
  have hr : rootsV m [.int k a, .agg (pcC h (.sl 1 n 0 q))] = [n] := by
    unfold rootsV
    rw [hnm]
    have h1 : nmsB (m.getD n .dead) = [] := by rw [hg]; exact nmsB_flat (nfB_row c)
    have h2 : reach m 79 [] [n] = [n] := rfl
    simp only [reach, List.contains_nil, cond_false, List.nil_append, h1, h2]
  have hv1 : rens (idx [n]) [.int k a, .agg (pcC h (.sl 1 n 0 q))] = [.int k a, .agg (pcC h (.sl 1 0 0 q))] := by
    have : idx [n] n = 0 := by simp [idx]
    simp only [rens, ren, pcC, hdC, cl]
    simp [List.range, List.range.loop, rens, ren, this]
  have hview : view [n] m = [rowB c] := by
    simp only [view, List.map_cons, List.map_nil, hg]
    rw [nfB_renB _ (nfB_row c)]
  have hclo : closedB [n] m = true := by
    simp only [closedB, nodupB, List.contains_nil, Bool.not_false, Bool.true_and, List.all_cons, List.all_nil, Bool.and_true, hg, nfB_inDB _ (nfB_row c), Nat.blt_eq, hlt]
  have hin : inDs (fun k => [n].contains k) [.int k a, .agg (pcC h (.sl 1 n 0 q))] = true := by
    simp only [inDs, inD, pcC, hdC, cl]
    simp [List.range, List.range.loop, inDs, inD]
  refine callD_at [n] (Snd_lendB (vs := [.int k a, .agg (pcC h (.sl 1 0 0 q))]) (m := [rowB c]) ?_ ?_ hs hv) he hr ?_ hv1 hview hv ?_ rfl rfl ?_ hk
  · rw [List.map_cons, List.map_cons, List.map_nil, lend_pc [rowB c] h 0 q c rfl hq]
    rfl
  · simp only [nfs, nf, nf_pkA, Bool.and_self]
  · simp only [okCall, hin, hclo, Bool.and_self]
  · exact all_inDB (nfM_cons (nfB_row c) rfl)
  · rw [p_merge (nfB_row c)]
    have := List.set_getElem_self hlt
    rw [(List.getElem?_eq_some_iff.1 hm).2] at this
    exact this
/-- A call on a row of the caller's and a value. -/
theorem callD_ru {f : FuncId} {m : Mem} {K Kp : V → Mem → Prop} {n q : Nat} {c : List Nat} {u v : V} (hs : AnsB Try.prog f [byV c, u] v) (he : enterable Try.prog f = true) (hu : nf u = true) (hv : nf v = true) (hm : m[n]? = some (rowB c)) (hq : q = c.length) (hk : K v m) : callD Try.prog f [.sl 1 n 0 q, u] m K Kp := by
  have hlt : n < m.length := (List.getElem?_eq_some_iff.1 hm).1
  have hg : m.getD n .dead = rowB c := by simp [List.getD, hm]
  have hun : nms u = [] := by
    have := nfs_nmss [u] (by simp only [nfs, hu, Bool.and_self])
    simpa [nmss] using this
  have hr : rootsV m [.sl 1 n 0 q, u] = [n] := by
    unfold rootsV
    simp only [nmss, nms, hun, List.append_nil]
    have h1 : nmsB (m.getD n .dead) = [] := by rw [hg]; exact nmsB_flat (nfB_row c)
    have h2 : reach m 79 [] [n] = [n] := rfl
    simp only [reach, List.contains_nil, cond_false, List.nil_append, h1, h2]
  have hclo : closedB [n] m = true := by
    simp only [closedB, nodupB, List.contains_nil, Bool.not_false, Bool.true_and, List.all_cons, List.all_nil, Bool.and_true, hg, nfB_inDB _ (nfB_row c), Nat.blt_eq, hlt]
  have hview : view [n] m = [rowB c] := by
    simp only [view, List.map_cons, List.map_nil, hg]
    rw [nfB_renB _ (nfB_row c)]
  have hl : lendV [rowB c] (.sl 1 0 0 q) = byV c := by
    have := lend_at (m := [rowB c]) (n := 0) (k := q) (a := 0) (l := c) rfl (by omega)
    rw [List.drop_zero] at this
    exact this
  refine callD_at [n] (Snd_lendB (vs := [.sl 1 0 0 q, u]) (m := [rowB c]) ?_ ?_ hs hv) he hr ?_ ?_ hview hv ?_ rfl rfl ?_ hk
  · rw [List.map_cons, List.map_cons, List.map_nil, hl, nf_lend hu]
  · simp only [nfs, nf_by, hu, Bool.and_self]
  · have : inDs (fun k => [n].contains k) [.sl 1 n 0 q, u] = true := by
      simp only [inDs, nf_inD _ _ hu, inD]
      simp
    simp only [okCall, this, hclo, Bool.and_self]
  · have : idx [n] n = 0 := by simp [idx]
    simp only [rens, ren, this, ren_nf _ _ hu]
  · exact all_inDB (nfM_cons (nfB_row c) rfl)
  · rw [p_merge (nfB_row c)]
    have := List.set_getElem_self hlt
    rw [(List.getElem?_eq_some_iff.1 hm).2] at this
    exact this
theorem pk_s11 (h : Hd) (b : List Nat) (x : V) : (pkC h b).set 11 x = pcC h x := rfl
theorem gt4096 (x : Nat) : decide ((4096 : Int) < (x : Int)) = decide (4096 < x) := by rw [Bool.eq_iff_iff]; simp; omega
theorem ansL_len (s : Nat) (h : Hd) (b : List Nat) : (ansL s h b).length ≤ 42 := by
  unfold ansL
  cases isA s h b
  · simp
  · rw [cond_true, arp_len]; omega
theorem aH_0 (s d f t : Nat) : aH s d f t 0 = s := rfl
theorem aH_1 (s d f t : Nat) : aH s d f t 1 = d := rfl
theorem aH_3 (s d f t : Nat) : aH s d f t 3 = 0 := rfl
theorem aH_4 (s d f t : Nat) : aH s d f t 4 = f := rfl
theorem aH_5 (s d f t : Nat) : aH s d f t 5 = t := rfl
theorem rA_aH (s d f t op : Nat) (ho : op = 1 ∨ op = 2) (hs : s < 281474976710656) (hd : d < 281474976710656) (hf : f < 4294967296) (ht : t < 4294967296) : rA (aH s d f t) [op] = .tup [.bool (decide (op = 1)), .int .u64 (s : Int), .int .u32 (f : Int), .int .u32 (t : Int), .bool true] := by
  rw [rA_ok (isQ_aH s d f t op ho hs hd hf ht)]
  rfl
/-! ### Arguments -/
end Go.Proofs.Ytpmbhjmlghoogaa
