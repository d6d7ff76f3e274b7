/- What a frame's bytes say, in plain Lean; calls of a cursor. No condition. -/
import Derived.Test.YtpmbhjmlghoogaaNs
namespace Go.Proofs.Ytpmbhjmlghoogaa
open Go Ab
set_option linter.unusedSimpArgs false
set_option linter.unusedVariables false
set_option maxRecDepth 20000

def gt (l : List Nat) (a n : Nat) : Nat := num ((l.drop a).take n)
theorem gt_lt {l : List Nat} (hb : ∀ b ∈ l, b < 256) (a n : Nat) : gt l a n < 256 ^ n := num_lt (fun b h => hb b (List.mem_of_mem_drop h)) n
def tg (l : List Nat) : Bool := decide (gt l 12 2 = 33024)
def po (l : List Nat) : Nat := bif tg l then 18 else 14
def kd (l : List Nat) : Nat := bif tg l then gt l 16 2 else gt l 12 2
def pr (l : List Nat) : Nat := gt l (po l + 9) 1
def mr (l : List Nat) : Nat := bif decide (kd l = 2048) then (bif decide (pr l = 6) then 40 else bif decide (pr l = 17) then 28 else 20) else 0
def hasP (l : List Nat) : Bool := decide (kd l = 2048) && (decide (pr l = 6) || decide (pr l = 17))
def rdH (l : List Nat) : Hd
  | 0 => gt l 6 6
  | 1 => gt l 0 6
  | 2 => kd l
  | 3 => bif tg l then gt l 14 2 else 0
  | 4 => bif decide (kd l = 2054) then gt l (po l + 14) 4 else bif decide (kd l = 2048) then gt l (po l + 12) 4 else 0
  | 5 => bif decide (kd l = 2054) then gt l (po l + 24) 4 else bif decide (kd l = 2048) then gt l (po l + 16) 4 else 0
  | 6 => bif decide (kd l = 2048) then pr l else 0
  | 7 => bif hasP l then gt l (po l + 20) 2 else 0
  | 8 => bif hasP l then gt l (po l + 22) 2 else 0
  | _ => 0
def rdB (l : List Nat) : List Nat := bif decide (kd l = 2054) then (l.drop (po l + 7)).take 1 else l.drop (po l + mr l)
def need (l : List Nat) : Nat := bif decide (kd l = 2054) then po l + 28 else po l + mr l
def rdOK (l : List Nat) : Bool := decide (14 ≤ l.length) && ((!tg l || (decide (18 ≤ l.length) && !decide (gt l 14 2 = 0))) && decide (need l ≤ l.length))
def prsK (l : List Nat) : Bool := rdOK l && (decide (bldF (rdH l) (rdB l) = 0) && decide (frmR (rdH l) (rdB l) = l))
def prsH (l : List Nat) : Hd := bif prsK l then rdH l else zH
def prsB (l : List Nat) : List Nat := bif prsK l then rdB l else []
def prsE (l : List Nat) : Int := bif prsK l then 0 else 30
def prsA (l : List Nat) : V := .tup [pkA (prsH l) (prsB l), .int .i64 (prsE l)]
theorem short14 {l : List Nat} (h : l.length < 14) : rdOK l = false := by
  have : decide (14 ≤ l.length) = false := by simp; omega
  simp [rdOK, this]
theorem short18 {l : List Nat} (t : tg l = true) (h : l.length < 18) : rdOK l = false := by
  have : decide (18 ≤ l.length) = false := by simp; omega
  simp [rdOK, this, t]
theorem vlan0 {l : List Nat} (t : tg l = true) (h : gt l 14 2 = 0) : rdOK l = false := by simp [rdOK, t, h]
theorem shortN {l : List Nat} (h : l.length < need l) : rdOK l = false := by
  have : decide (need l ≤ l.length) = false := by simp; omega
  simp [rdOK, this]
theorem prsK_no {l : List Nat} (h : rdOK l = false) : prsK l = false := by simp [prsK, h]
theorem prsA_err {l : List Nat} (h : prsK l = false) : prsA l = .tup [pkA zH [], .int .i64 30] := by simp [prsA, prsH, prsB, prsE, h]
theorem prsA_ok {l : List Nat} (h : prsK l = true) : prsA l = .tup [pkA (rdH l) (rdB l), .int .i64 0] := by simp [prsA, prsH, prsB, prsE, h]
theorem rdH_u64 {l : List Nat} (hb : ∀ b ∈ l, b < 256) : U64h (rdH l) := by
  have g : ∀ a n, n ≤ 7 → gt l a n < 18446744073709551616 := by
    intro a n hn
    have h1 := gt_lt hb a n
    have h2 : 256 ^ n ≤ 256 ^ 7 := Nat.pow_le_pow_right (by omega) hn
    omega
  have hk : kd l < 18446744073709551616 := by unfold kd; cases tg l <;> exact g _ _ (by omega)
  have hp : pr l < 18446744073709551616 := g _ _ (by omega)
  intro i hi
  match i, hi with
  | 0, _ => exact g _ _ (by omega)
  | 1, _ => exact g _ _ (by omega)
  | 2, _ => exact hk
  | 3, _ => show (bif tg l then gt l 14 2 else 0) < _; cases tg l <;> first | exact g _ _ (by omega) | (show 0 < _; omega)
  | 4, _ =>
    show (bif decide (kd l = 2054) then gt l (po l + 14) 4 else bif decide (kd l = 2048) then gt l (po l + 12) 4 else 0) < _
    cases decide (kd l = 2054) <;> cases decide (kd l = 2048) <;> first | exact g _ _ (by omega) | (show 0 < _; omega)
  | 5, _ =>
    show (bif decide (kd l = 2054) then gt l (po l + 24) 4 else bif decide (kd l = 2048) then gt l (po l + 16) 4 else 0) < _
    cases decide (kd l = 2054) <;> cases decide (kd l = 2048) <;> first | exact g _ _ (by omega) | (show 0 < _; omega)
  | 6, _ => show (bif decide (kd l = 2048) then pr l else 0) < _; cases decide (kd l = 2048) <;> first | exact hp | (show 0 < _; omega)
  | 7, _ => show (bif hasP l then gt l (po l + 20) 2 else 0) < _; cases hasP l <;> first | exact g _ _ (by omega) | (show 0 < _; omega)
  | 8, _ => show (bif hasP l then gt l (po l + 22) 2 else 0) < _; cases hasP l <;> first | exact g _ _ (by omega) | (show 0 < _; omega)
  | 9, _ => show 0 < _; omega
  | 10, _ => show 0 < _; omega
theorem rdB_lt {l : List Nat} (hb : ∀ b ∈ l, b < 256) : ∀ b ∈ rdB l, b < 256 := by
  intro b h
  unfold rdB at h
  cases e : decide (kd l = 2054) <;> rw [e] at h <;> simp only [cond_true, cond_false] at h
  · exact hb b (List.mem_of_mem_drop h)
  · exact hb b (List.mem_of_mem_drop (List.mem_of_mem_take h))
theorem rdB_len (l : List Nat) : (rdB l).length ≤ l.length := by
  unfold rdB
  cases decide (kd l = 2054) <;> simp only [cond_true, cond_false, List.length_drop, List.length_take] <;> omega
def upH (h : Hd) (i v : Nat) : Hd := fun j => if j = i then v else h j
theorem pc_ext {h g : Hd} (x : V) (e : ∀ i, i < 11 → h i = g i) : pcC h x = pcC g x := by
  unfold pcC hdC cl
  congr 1
  exact List.map_congr_left fun i hi => by simp only [e i (List.mem_range.1 hi)]
theorem set0 (h : Hd) (x : V) (v : Nat) : (pcC h x).set 0 (.int .u64 (v : Int)) = pcC (upH h 0 v) x := rfl
theorem set1 (h : Hd) (x : V) (v : Nat) : (pcC h x).set 1 (.int .u64 (v : Int)) = pcC (upH h 1 v) x := rfl
theorem set2 (h : Hd) (x : V) (v : Nat) : (pcC h x).set 2 (.int .u64 (v : Int)) = pcC (upH h 2 v) x := rfl
theorem set3 (h : Hd) (x : V) (v : Nat) : (pcC h x).set 3 (.int .u64 (v : Int)) = pcC (upH h 3 v) x := rfl
theorem set4 (h : Hd) (x : V) (v : Nat) : (pcC h x).set 4 (.int .u64 (v : Int)) = pcC (upH h 4 v) x := rfl
theorem set5 (h : Hd) (x : V) (v : Nat) : (pcC h x).set 5 (.int .u64 (v : Int)) = pcC (upH h 5 v) x := rfl
theorem set6 (h : Hd) (x : V) (v : Nat) : (pcC h x).set 6 (.int .u64 (v : Int)) = pcC (upH h 6 v) x := rfl
theorem set7 (h : Hd) (x : V) (v : Nat) : (pcC h x).set 7 (.int .u64 (v : Int)) = pcC (upH h 7 v) x := rfl
theorem set8 (h : Hd) (x : V) (v : Nat) : (pcC h x).set 8 (.int .u64 (v : Int)) = pcC (upH h 8 v) x := rfl
theorem set11 (h : Hd) (x y : V) : (pcC h x).set 11 y = pcC h y := rfl
theorem pc2 (h : Hd) (x : V) : (pcC h x)[2]? = some (.int .u64 (h 2 : Int)) := rfl
theorem pc3 (h : Hd) (x : V) : (pcC h x)[3]? = some (.int .u64 (h 3 : Int)) := rfl
theorem pc6 (h : Hd) (x : V) : (pcC h x)[6]? = some (.int .u64 (h 6 : Int)) := rfl
theorem pc11 (h : Hd) (x : V) : (pcC h x)[11]? = some x := rfl
theorem pc0z : ([.int .u64 0, .int .u64 0, .int .u64 0, .int .u64 0, .int .u64 0, .int .u64 0, .int .u64 0, .int .u64 0, .int .u64 0, .int .u64 0, .int .u64 0, .nils] : List V) = pcC zH .nils := rfl
theorem nfs_pc (h : Hd) {x : V} (hx : nf x = true) : nfs (pcC h x) = true := by
  show nfs (hdC h ++ [x]) = true
  simp [hdC, cl, List.range, List.range.loop, nfs, nf, hx]
theorem nfB_pc0 (h : Hd) : nfB (.var 60 (pcC h .nils)) = true := nfs_pc h rfl
theorem nfB28 (y : Int) : nfB (.var 61 [.int .i64 y]) = true := rfl
theorem nfB57 (l : List Nat) : nfB (.var 107 [byV l]) = true := by simp [nfB, nfs, nf_by]
theorem roots_p {m : Mem} {n o : Nat} {b : B} {r : List V} (hn : m[n]? = some b) (hf : nfB b = true) (hr : nfs r = true) : rootsV m (.ptr n o :: r) = [n] := by
  unfold rootsV
  simp only [nmss, nms, nfs_nmss r hr, List.append_nil]
  have h : nmsB (m.getD n .dead) = [] := by simp [List.getD, hn, nmsB_flat hf]
  have h2 : reach m 79 [] [n] = [n] := rfl
  simp only [reach, List.contains_nil, cond_false, List.nil_append, h, h2]
section
variable {m : Mem} {n : Nat} {b b1 : B}
theorem p_parts {r : List V} {o : Nat} (hn : m[n]? = some b) (hf : nfB b = true) (hr : nfs r = true) :
    okCall [n] m (.ptr n o :: r) = true ∧ rens (idx [n]) (.ptr n o :: r) = .ptr 0 o :: r ∧ view [n] m = [b] := by
  have hlt : n < m.length := (List.getElem?_eq_some_iff.1 hn).1
  have hg : m.getD n .dead = b := by simp [List.getD, hn]
  refine ⟨?_, ?_, ?_⟩
  · have h1 : closedB [n] m = true := by
      simp only [closedB, nodupB, List.contains_nil, Bool.not_false, Bool.true_and, List.all_cons, List.all_nil, Bool.and_true, hg, nfB_inDB _ hf, Nat.blt_eq, hlt]
    simp only [okCall, h1, Bool.and_true]
    simp [inDs, inD, nfs_inDs _ r hr]
  · simp [rens, ren, idx, rens_nf _ _ hr]
  · simp only [view, List.map_cons, List.map_nil, hg, nfB_renB _ hf]
theorem p_merge (hf : nfB b1 = true) : merge [n] m [b1] = m.set n b1 := by
  unfold merge
  rw [flat_ren _ (show nfM ([b1].take [n].length) = true from nfM_cons hf rfl), flat_ren _ (show nfM ([b1].drop [n].length) = true from rfl)]
  show setAll m [n] [b1] ++ [] = _
  rw [List.append_nil]
  rfl
end
section
variable {m : Mem} {n : Nat} {K Kp : V → Mem → Prop} {K0 : V → Prop} {K1 : V → Mem → List Nat → Prop} {k : Int}
theorem callE_num (L : List Nat) (a j a' : Nat) (hb : ∀ b ∈ L, b < 256) (hn : m[n]? = some (.var 107 [byV (L.drop a)])) (hk : k = (j : Int)) (hj : j ≤ 7) (hl : a + j ≤ L.length) (ha : a' = a + j)
    (h : K1 (.int .u64 (gt L a j : Int)) (m.set n (.var 107 [byV (L.drop a')])) [n]) : callE Try.prog 38 [.ptr n 0, .int .i64 k] m K0 K1 := by
  subst hk ha
  obtain ⟨p1, p2, p3⟩ := p_parts (r := [.int .i64 (j : Int)]) (o := 0) hn (nfB57 _) rfl
  have hs := snd29 (L.drop a) j (fun b h => hb b (List.mem_of_mem_drop h)) hj (by simp; omega)
  rw [List.drop_drop] at hs
  refine .inr ?_
  rw [roots_p hn (nfB57 _) rfl, p2, p3]
  refine ⟨p1, en38, _, _, hs, ?_, rfl, ?_⟩
  · simp only [okBack, inD, allK]
    simp
  · rw [p_merge (nfB57 _)]
    exact h
theorem callP_num (L : List Nat) (a j : Nat) {Kq : V → Mem → Prop} (hn : m[n]? = some (.var 107 [byV (L.drop a)])) (hk : k = (j : Int)) (hj : 0 < j) (hl : L.length < a + j)
    (h : Kq shortV (m.set n (.var 107 [byV (L.drop a)]))) : callP Try.prog 38 [.ptr n 0, .int .i64 k] m Kq := by
  subst hk
  have hlt : n < m.length := (List.getElem?_eq_some_iff.1 hn).1
  obtain ⟨p1, p2, p3⟩ := p_parts (r := [.int .i64 (j : Int)]) (o := 0) hn (nfB57 _) rfl
  have hs := snd29p (L.drop a) j (by simp; omega)
  unfold callP
  rw [roots_p hn (nfB57 _) rfl, p2, p3]
  refine ⟨p1, en38, _, _, hs, ?_, ?_⟩
  · simp only [okRes, okBack, inD, allK]
    simp [shortV, inD, inDs]
  · simp only [backV, List.isEmpty_cons, Bool.false_and, cond_false, p_merge (nfB57 _)]
    exact h
theorem callE_take (L : List Nat) (a j a' : Nat) (hn : m[n]? = some (.var 107 [byV (L.drop a)])) (hk : k = (j : Int)) (hl : a + j ≤ L.length) (ha : a' = a + j)
    (h : K1 (byV ((L.drop a).take j)) (m.set n (.var 107 [byV (L.drop a')])) [n]) : callE Try.prog 39 [.ptr n 0, .int .i64 k] m K0 K1 := by
  subst hk ha
  obtain ⟨p1, p2, p3⟩ := p_parts (r := [.int .i64 (j : Int)]) (o := 0) hn (nfB57 _) rfl
  have hs := snd30 (L.drop a) j (by simp; omega)
  rw [List.drop_drop] at hs
  refine .inr ?_
  rw [roots_p hn (nfB57 _) rfl, p2, p3]
  refine ⟨p1, en39, _, _, hs, ?_, rfl, ?_⟩
  · simp only [okBack, nf_inD _ _ (nf_by _), allK]
    simp
  · rw [p_merge (nfB57 _), ren_nf _ _ (nf_by _)]
    exact h
theorem callP_take (L : List Nat) (a j : Nat) {Kq : V → Mem → Prop} (hn : m[n]? = some (.var 107 [byV (L.drop a)])) (hk : k = (j : Int)) (hj : 0 < j) (hl : L.length < a + j)
    (h : Kq shortV (m.set n (.var 107 [byV (L.drop a)]))) : callP Try.prog 39 [.ptr n 0, .int .i64 k] m Kq := by
  subst hk
  obtain ⟨p1, p2, p3⟩ := p_parts (r := [.int .i64 (j : Int)]) (o := 0) hn (nfB57 _) rfl
  have hs := snd30p (L.drop a) j (by simp; omega)
  unfold callP
  rw [roots_p hn (nfB57 _) rfl, p2, p3]
  refine ⟨p1, en39, _, _, hs, ?_, ?_⟩
  · simp only [okRes, okBack, inD, allK]
    simp [shortV, inD, inDs]
  · simp only [backV, List.isEmpty_cons, Bool.false_and, cond_false, p_merge (nfB57 _)]
    exact h
/-- A call of take where the order is the text's: it hands back the bytes, or panics. -/
theorem callD_take (L : List Nat) (a j a' : Nat) (hn : m[n]? = some (.var 107 [byV (L.drop a)])) (hk : k = (j : Int)) (hj : 0 < j) (ha : a' = a + j)
    (h : a + j ≤ L.length → K (byV ((L.drop a).take j)) (m.set n (.var 107 [byV (L.drop a')]))) (hp : L.length < a + j → Kp shortV (m.set n (.var 107 [byV (L.drop a)]))) : callD Try.prog 39 [.ptr n 0, .int .i64 k] m K Kp := by
  subst hk ha
  obtain ⟨p1, p2, p3⟩ := p_parts (r := [.int .i64 (j : Int)]) (o := 0) hn (nfB57 _) rfl
  rcases Nat.lt_or_ge L.length (a + j) with hl | hl
  · have hs := snd30p (L.drop a) j (by simp; omega)
    refine .inl ?_
    unfold callL
    rw [roots_p hn (nfB57 _) rfl, p2, p3]
    refine ⟨p1, en39, _, hs, ?_⟩
    rintro r rfl
    refine ⟨?_, ?_⟩
    · simp only [okRes, CR.val, CR.mem, okBack, inD, allK]
      simp [shortV, inD, inDs]
    · simp only [backV, List.isEmpty_cons, Bool.false_and, cond_false, p_merge (nfB57 _)]
      exact hp hl
  · have hs := snd30 (L.drop a) j (by simp; omega)
    rw [List.drop_drop] at hs
    refine .inl ?_
    unfold callL
    rw [roots_p hn (nfB57 _) rfl, p2, p3]
    refine ⟨p1, en39, _, hs, ?_⟩
    rintro r rfl
    refine ⟨?_, ?_⟩
    · simp only [okRes, CR.val, CR.mem, okBack, nf_inD _ _ (nf_by _), allK]
      simp
    · simp only [backV, List.isEmpty_cons, Bool.false_and, cond_false, p_merge (nfB57 _), ren_nf _ _ (nf_by _)]
      exact h hl
end
theorem cutIf {P : Program} {t : Bool} {K0 : Nat} {R : List Nat} {a b : Code} {E : Nat → List Nat} {L : List Nat} {env : Env} {m : Mem} {Q : Ex → Env → Mem → Prop} (C : Env → Mem → Prop) (hnext : ∀ e m, C e m → Q .nrm e m)
    (ha : t = true → W P K0 R a E L env m (seqQ C Q)) (hb : t = false → W P K0 R b E L env m (seqQ C Q)) : testP t (W P K0 R a E L env m Q) (W P K0 R b E L env m Q) := by
  have hq : ∀ ex e m, seqQ C Q ex e m → Q ex e m := by
    intro ex e m h
    cases ex with
    | nrm => exact hnext e m h
    | _ => exact h
  exact ⟨fun h => W_mono _ _ _ _ _ _ _ hq (ha h), fun h => W_mono _ _ _ _ _ _ _ hq (hb h)⟩
end Go.Proofs.Ytpmbhjmlghoogaa
