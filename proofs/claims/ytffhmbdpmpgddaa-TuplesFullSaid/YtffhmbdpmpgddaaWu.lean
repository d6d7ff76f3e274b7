/- Both tables under any calls. No condition. -/
import Derived.Test.YtffhmbdpmpgddaaWt
import Derived.Test.YtffhmbdpmpgddaaWf
import Derived.Test.YtffhmbdpmpgddaaTa
namespace Go.Proofs.Ytffhmbdpmpgddaa
open Go Ab
set_option linter.unusedSimpArgs false
set_option linter.unusedVariables false
set_option maxRecDepth 20000

theorem fndA_no {q : Int} : ∀ {l : List (Int × V)} {i : Nat}, (∀ x ∈ l, x.1 ≠ q) → fndA q l i = none
  | [], _, _ => rfl
  | x :: r, i, h => by
    have h1 : decide (q = x.1) = false := decide_eq_false (fun e => h x (by simp) e.symm)
    simp only [fndA, h1, cond_false]
    exact fndA_no fun y hy => h y (by simp [hy])
def zRu : Ru := ⟨0, fun _ => 0, .nils, .int .u64 0⟩
set_option maxHeartbeats 4000000 in
theorem snd13n {m : Mem} {p : Nat} {T : Tbl} {id : Int} (h : TB m p T) (hat : fndA id T.at_ 0 = none) : Snd Try.prog 13 [.ptr p 0, .int .i64 id] m fun q => ∃ m', q = .ret (.bool false) m' ∧ Keep m m' [] := by
  refine Snd_of_W fol rfl rfl (by kernel_rfl) (by kernel_rfl) ?_
  have pe26 : ∀ (n o : Nat) (env : Env), binV Try.prog .eql 26 (.ptr n o) (evO env (.const (.pointer none))) = some (.bool false) := fun _ _ _ => rfl
  have tc : ∀ T, (tbC T)[1]? = some (.mp T.a) := fun _ => rfl
  have nv : ∀ m : Mem, newV 3 m (.int .i64 id) = some (.ptr m.length 0, m ++ [.var 3 [.int .i64 id]]) := fun m => newV_one rfl
  have hlt := h.lt
  have h0 := h.app [B.var 3 [.int .i64 id]]
  have hI : (m ++ [B.var 3 [.int .i64 id]])[m.length]? = some (B.var 3 [.int .i64 id]) := by simp
  have hl0 : (m ++ [B.var 3 [.int .i64 id]]).length = m.length + 1 := by simp
  have hk0 : ∀ k, k < m.length → (m ++ [B.var 3 [.int .i64 id]])[k]? = m[k]? := fun k hk => List.getElem?_append_left hk
  simp -implicitDefEqProofs only [sims.1, fx.1, keeps.1, tick_on, calleeK, extractV, oneV, faddrK, nonnil, b_shr, b_shl, fieldK, Nat.reduceAdd, Nat.reduceMul, Nat.reduceSub, Nat.reduceEqDiff, Nat.reduceLT, Nat.reduceLeDiff, Nat.reduceBEq, Nat.reduceBNe, reduceIte, Int.reduceEq, Int.reduceLT, Int.reduceLE, Int.reduceNe, Int.reduceToNat, pe26, nv]
  generalize m ++ [B.var 3 [.int .i64 id]] = m0 at hI h0 hl0 hk0 ⊢
  generalize hbx : m.length = bi at hI hl0 hk0 hlt ⊢
  have hpl := hlt p (by simp [posT])
  have hal := hlt T.a (by simp [posT])
  simp -implicitDefEqProofs only [sims.1, fx.1, keeps.1, tick_on, calleeK, extractV, oneV, faddrK, nonnil, b_shr, b_shl, fieldK, Nat.reduceAdd, Nat.reduceMul, Nat.reduceSub, Nat.reduceEqDiff, Nat.reduceLT, Nat.reduceLeDiff, Nat.reduceBEq, Nat.reduceBNe, reduceIte, Int.reduceEq, Int.reduceLT, Int.reduceLE, Int.reduceNe, Int.reduceToNat, pe26]
  have hz : zeroV Try.prog 32 = some (.agg (ruC zRu)) := by kernel_rfl
  have hlk := look_at (id := id) h0.ta hz
  rw [hat] at hlk
  refine w_noisy ?_
  have hst : ∀ (pre : Mem) (z : List V), z.length = 25 → storeK 25 (pre ++ [B.var 32 z]) (.ptr pre.length 0) (.agg (ruC zRu)) = some (pre ++ [.var 32 (ruC zRu)]) := fun pre z hz => st_ru zRu hz
  simp -implicitDefEqProofs only [sims.1, fx.1, keeps.1, tick_on, calleeK, extractV, oneV, faddrK, nonnil, b_shr, b_shl, fieldK, Nat.reduceAdd, Nat.reduceMul, Nat.reduceSub, Nat.reduceEqDiff, Nat.reduceLT, Nat.reduceLeDiff, Nat.reduceBEq, Nat.reduceBNe, reduceIte, Int.reduceEq, Int.reduceLT, Int.reduceLE, Int.reduceNe, Int.reduceToNat, h0.tp, tc, hI, hlk]
  iterate 8
    first
    | (refine orderP_of (accB_lt (by intro n hn; first | (simp [nms, mnm] at hn; done) | (simp [nms, mnm] at hn ⊢; omega) | (simp [nms, mnm] at hn; omega)) (by kernel_rfl)) ?_
       simp -implicitDefEqProofs only [sims.1, fx.1, keeps.1, tick_on, calleeK, extractV, oneV, faddrK, nonnil, b_shr, b_shl, fieldK, Nat.reduceAdd, Nat.reduceMul, Nat.reduceSub, Nat.reduceEqDiff, Nat.reduceLT, Nat.reduceLeDiff, Nat.reduceBEq, Nat.reduceBNe, reduceIte, Int.reduceEq, Int.reduceLT, Int.reduceLE, Int.reduceNe, Int.reduceToNat, h0.tp, tc, hI, hlk, hst])
    | skip
  refine ⟨_, rfl, by simp; omega, fun k hk _ => ?_⟩
  rw [List.getElem?_append_left (by omega), hk0 k (by omega)]

/-- A rule is dropped, or there is none. -/
theorem snd13u {m : Mem} {p : Nat} {T : Tbl} {id : Int} {L : List (Int × Ru)} {N : Nat} (h : TB m p T) (hi : Inv2 T L) (hb : Bn T N) (hN : N < 100000) (hL : ∀ x ∈ L, U64 22 x.2.w) :
    Snd Try.prog 13 [.ptr p 0, .int .i64 id] m fun q => ∃ m' T', q = .ret (.bool (decide ((flt id L).length < L.length))) m' ∧ TB m' p T' ∧ Inv2 T' (flt id L) ∧ Bn T' N ∧ T'.last = T.last ∧ Keep m m' (posT p T) ∧ ∀ k ∈ posT p T', k ∈ posT p T := by
  by_cases hm : ∃ r, (id, r) ∈ L
  · obtain ⟨r, hm⟩ := hm
    obtain ⟨k, i, x, j, y, f1, f2, f3, f4, f5, f6, f7⟩ := hi.found hm
    have hr := hL _ hm
    have hxm := List.mem_of_getElem? f4
    have hmany : 1 ≤ x.many := by
      rw [hi.many x hxm]
      obtain ⟨_, hj, _⟩ := fndE_at f5
      rw [Nat.sub_zero] at hj
      obtain ⟨A, C, hAC, _⟩ := split_at hj
      unfold cnt
      rw [hAC, sum_split]
      obtain ⟨n, hn, _⟩ := f7
      have := List.length_pos_of_mem hn
      omega
    have hlt : decide ((flt id L).length < L.length) = true := by
      have h1 : (flt id L).length ≤ L.length := List.length_filter_le _ _
      have h2 : (flt id L).length ≠ L.length := fun e => by
        have := List.filter_sublist (p := fun x : Int × Ru => !decide (x.1 = id)) (l := L)
        have h3 := this.eq_of_length e
        have h4 : (id, r) ∈ L.filter fun x => !decide (x.1 = id) := by rw [h3]; exact hm
        rw [List.mem_filter] at h4
        simp at h4
      exact decide_eq_true (by omega)
    refine (snd13 (r := { r with cp := .nils }) h (hb.ok hN) hr f1 f3 f4 f5 f7).mono ?_
    rintro q ⟨m', T', rfl, g1, g2, g3, g4⟩
    refine ⟨m', T', by rw [hlt], g1, hi.dropped f2 (r2 := { r with cp := .nils }) rfl f4 f5 f6 f7 g2, hb.dropped (r := { r with cp := .nils }) hr f4 f5 hmany g2, g2.2.1, g3, g4⟩
  · have hno : ∀ x ∈ L, x.1 ≠ id := fun x hx e => hm ⟨x.2, by rw [← e]; exact hx⟩
    have hf : flt id L = L := List.filter_eq_self.2 fun x hx => by simp [hno x hx]
    refine (snd13n h (fndA_no fun x hx => ?_)).mono ?_
    · rw [hi.at_] at hx
      obtain ⟨q, hq, rfl⟩ := List.mem_map.1 hx
      exact hno q hq
    · rintro q ⟨m', rfl, k1, k2⟩
      rw [hf]
      exact ⟨m', T, by simp, h.of fun k hk => k2 k (h.lt k hk) (by simp), hi, hb, rfl, ⟨k1, fun k hk _ => k2 k hk (by simp)⟩, fun _ h => h⟩

/-- What both find is the same. -/
theorem find_same {m : Mem} {p : Nat} {T : Tbl} {L : List (Int × Ru)} {h : Nat → Nat} (hT : TB m p T) (hi : Inv2 T L) (hL : ∀ x ∈ L, wfR x.2 ∧ chk x.2.w = true) (hh : U64 11 h) :
    fwA h L = ((fndB h T.rows (0, 0)).1, decide (0 < (fndB h T.rows (0, 0)).1)) := by
  have hb := find_best hT hi.inv (fun q hq => ⟨(hL q hq).1.1, (hL q hq).2⟩) hh
  have hsp := fw_spec (h := h) (L := L) (j := L.length) (Nat.le_refl _)
  obtain ⟨fb, hfb⟩ : ∃ fb, fb = fndB h T.rows (0, 0) := ⟨_, rfl⟩
  rw [← hfb] at hb ⊢
  unfold fwA
  rcases hb with ⟨h0, hnone⟩ | ⟨hpos, ⟨r, hr1, hr2, hr3⟩, hall⟩
  · cases e : fw h L L.length with
    | none => simp [h0]
    | some b =>
      rw [e] at hsp
      obtain ⟨_, y, h2, h3, _⟩ := hsp
      exact absurd ⟨y.2, List.mem_of_getElem? h2, rfl, h3⟩ (hnone (y.1, y.2.rank))
  · obtain ⟨i, hil⟩ := List.getElem?_of_mem hr1
    have hilt := (List.getElem?_eq_some_iff.1 hil).1
    cases e : fw h L L.length with
    | none =>
      rw [e] at hsp
      have := hsp i _ hilt hil
      rw [hr3] at this
      cases this
    | some b =>
      rw [e] at hsp
      obtain ⟨hbl, y, h2, h3, h4⟩ := hsp
      have h5 := h4 i _ hilt hil hr3
      have h6 := hall (y.1, y.2.rank) ⟨y.2, List.mem_of_getElem? h2, rfl, h3⟩
      simp only [ltIn, Bool.or_eq_false_iff, Bool.and_eq_false_iff, decide_eq_false_iff_not] at h6
      simp only at h5
      have hrk : r.rank = y.2.rank := by omega
      have hbi := h5.2 hrk
      have hge : ¬ y.1 < fb.1 := by rcases h6.2 with h7 | h7; · omega
                                    · exact h7
      have hle : y.1 ≤ fb.1 := by
        rcases Nat.lt_or_ge b i with h7 | h7
        · have := List.pairwise_iff_getElem.1 hi.ids b i hbl hilt h7
          rw [List.getElem?_eq_getElem hbl] at h2
          rw [List.getElem?_eq_getElem hilt] at hil
          have e1 := Option.some.inj h2
          have e2 := Option.some.inj hil
          rw [e1, e2] at this
          simp only at this
          omega
        · have : b = i := by omega
          subst this
          rw [hil] at h2
          cases h2
          exact Int.le_refl _
      have : y.1 = fb.1 := by omega
      simp [h2, this, hpos]

structure De where
  d : Int
  r : Ru
  id : Int
  h : Nat → Nat
def deC (x : De) : List V := .int .i64 x.d :: (ruC x.r ++ (.int .i64 x.id :: hC x.h))
def wfD (x : De) : Prop := wfR x.r ∧ U64 11 x.h
theorem st_de {pre : Mem} {z : List V} (x : De) (hz : z.length = 38) : storeK 38 (pre ++ [.var 47 z]) (.ptr pre.length 0) (.agg (deC x)) = some (pre ++ [.var 47 (deC x)]) := by
  have h : (pre ++ [B.var 47 z])[pre.length]? = some (B.var 47 z) := by simp
  have h1 : (cellsOfV (V.agg (deC x))).length = 38 ∧ cellsB (V.agg (deC x)) = true := ⟨rfl, rfl⟩
  have h6 : 0 + (cellsOfV (V.agg (deC x))).length ≤ z.length := by rw [hz]; exact Nat.le_refl 38
  unfold storeK
  rw [if_pos h1]
  simp only [h]
  rw [if_pos h6]
  have : splice z 0 (cellsOfV (V.agg (deC x))) = deC x := splice_all (by rw [hz]; rfl)
  rw [this]
  simp

/-- Both tables, side by side. -/
structure Pl (mm : Mem) (N : Nat) (T : Tbl) (R : RT) : Prop where
  tb : TB mm 1 T
  rb : RB mm 2 R
  dj : ∀ k ∈ posT 1 T, k ∉ posW 2 R
  inv : Inv2 T R.L
  bn : Bn T N
  last : R.last = T.last
  wf : ∀ x ∈ R.L, wfR x.2 ∧ chk x.2.w = true
  len : R.L.length ≤ N
theorem Pl.keep {mm m' : Mem} {N : Nat} {T : Tbl} {R : RT} (h : Pl mm N T R) (hk : ∀ k, k < mm.length → m'[k]? = mm[k]?) : Pl m' N T R :=
  ⟨h.tb.of fun k hk2 => hk k (h.tb.lt k hk2), h.rb.of fun k hk2 => hk k (h.rb.lt k hk2), h.dj, h.inv, h.bn, h.last, h.wf, h.len⟩
theorem Pl.app {mm : Mem} {N : Nat} {T : Tbl} {R : RT} (h : Pl mm N T R) (l : Mem) : Pl (mm ++ l) N T R := h.keep fun k hk => List.getElem?_append_left hk
theorem Pl.new : Pl [.map [] [] 0, .var 55 [.nils, .mp 0, .int .i64 0], .var 45 [.nils, .int .i64 0]] 0 newT ⟨[], 0, 0⟩ :=
  ⟨tb_new.app _, ⟨rfl, fun h => absurd rfl h⟩, fun k hk => by simp [posT, newT] at hk; simp [posW]; omega, Inv2.new rfl rfl,
   ⟨fun _ h => by simp [newT] at h, fun _ h => by simp [newT] at h, Nat.le_refl _, fun _ h => by simp [newT] at h, fun _ h => by simp [newT] at h, rfl, Nat.le_refl _, fun _ h => by simp [newT] at h⟩,
   rfl, fun _ h => by simp at h, Nat.le_refl _⟩
theorem Pl.added {mm m' m'' : Mem} {N s : Nat} {T T' : Tbl} {R : RT} {r : Ru} (h : Pl mm N T R) (hr : wfR r) (hc : chk r.w = true) (htb : TB m' 1 T') (hadd : Added T r T') (hk : Keep mm m' (posT 1 T)) (hpos : ∀ k ∈ posT 1 T', k ∈ posT 1 T ∨ mm.length ≤ k)
    (hrb : RB m'' 2 ⟨R.L ++ [(R.last + 1, r)], R.last + 1, s⟩) (hk2 : Keep m' m'' (posW 2 R)) (hs : m'.length ≤ s) : Pl m'' (N + 1) T' ⟨R.L ++ [(R.last + 1, r)], R.last + 1, s⟩ := by
  have hdj : ∀ k ∈ posT 1 T', k ∉ posW 2 R := fun k hk3 hh => by
    rcases hpos k hk3 with h1 | h1
    · exact h.dj k h1 hh
    · have := h.rb.lt k hh; omega
  have h2 : 2 ∉ posT 1 T' := fun hh => hdj 2 hh (mem_posW.2 (.inl rfl))
  refine ⟨htb.of fun k hk3 => hk2.2 k (htb.lt k hk3) (hdj k hk3), hrb, fun k hk3 hh => ?_, ?_, h.bn.added hadd hr.1, ?_, fun x hx => ?_, by simp; have := h.len; omega⟩
  · rcases mem_posW.1 hh with rfl | ⟨_, rfl⟩
    · exact h2 hk3
    · have := htb.lt _ hk3
      omega
  · have := h.inv.added hadd (by rw [h.bn.last]; omega)
    rw [h.last]
    exact this
  · obtain ⟨_, _, _, _, _, _, _, hl⟩ := hadd
    simp only
    rw [hl, h.last]
  · rcases List.mem_append.1 hx with hx | hx
    · exact h.wf x hx
    · rw [List.mem_singleton.1 hx]
      exact ⟨hr, hc⟩
theorem Pl.rb1 {mm m' : Mem} {N : Nat} {T : Tbl} {R : RT} (h : Pl mm N T R) (hk : Keep mm m' (posT 1 T)) : RB m' 2 R := h.rb.of fun k hk2 => hk.2 k (h.rb.lt k hk2) fun hh => h.dj k hh hk2
end Go.Proofs.Ytffhmbdpmpgddaa
