/- The reference's reader: lists of ports. No condition. What is written is read as it was, what is read is written as it was: numbers and lists. No condition. What is written is read as it was, what is read is written as it was: messages. No condition. The reference's reader: a rule's parts, plain. No condition. -/
import Derived.Test.YtjjenpdjmcmgbaaDRa
import Derived.Test.YtjjenpdjmcmgbaaDZq
namespace Go.Proofs.Ytjjenpdjmcmgbaa
open Go Ab
set_option linter.unusedSimpArgs false
set_option linter.unusedVariables false
set_option maxRecDepth 20000
/-- An answer, with its rows frozen and told otherwise. -/
theorem Snd_frzR {P : Program} {f : FuncId} {vs : List V} {m : Mem} {Q Q' : CR → Prop} (h : Snd P f vs m Q)
    (hq : ∀ v M, Q (.ret v M) → ∃ v1 M1 v2, frzV M v = some (v1, M1) ∧ (∀ {N : Nat} {ρ : Pl} {I : Nat → Prop} {w : World} {x : Value}, RV N ρ I w v1 x → RV N ρ I w v2 x) ∧ Q' (.ret v2 M1)) (hp : ∀ v M, Q (.pan v M) → Q' (.pan v M)) : Snd P f vs m Q' := by
  intro ρ I w xs hr hl hrt
  refine (h ρ I w xs hr hl hrt).mono ?_
  rintro ex w' ⟨r, h1, x, ρ', I', k0, k1, k2, k3⟩
  cases r with
  | pan v M => exact ⟨_, hp v M h1, x, ρ', I', k0, k1, k2, k3⟩
  | ret v M =>
    obtain ⟨v1, M1, v2, g1, g2, g3⟩ := hq v M h1
    obtain ⟨I2, r2, s2, v2'⟩ := frzV_sound k1 k3 g1
    exact ⟨_, g3, x, ρ', I2, k0, r2, k2.trans s2, g2 v2'⟩
theorem nil_isl {s : Nat} {N : Nat} {ρ : Pl} {I : Nat → Prop} {w : World} {x : Value} (h : RV N ρ I w .nils x) : RV N ρ I w (.isl s []) x := by
  simp only [RV] at h ⊢
  exact ⟨none, 0, by simpa using h, Nat.le_refl _, by simp⟩
theorem K1.S2 {c : Nat} {m0 M : Mem} {E s k : Nat} {es : List (List V)} {x : List V} (h : K1 c m0 M) (hk : es ≠ [] → m0.length ≤ k) : K1 c m0 (S2 M E s k es x) :=
  ⟨by rw [S2_len]; have := h.1; omega, fun n b hn hm => S2_at (h.2 n b hn hm) fun he => by have := hk he; have := (List.getElem?_eq_some_iff.1 hm).1; omega⟩
theorem RdS.S2 {M : Mem} {c : Nat} {b : List Nat} {S : Option (List Nat)} {E s k : Nat} {es : List (List V)} {x : List V} (h : RdS M c b S) (hk : es ≠ [] → c ≠ k) : RdS (S2 M E s k es x) c b S :=
  h.at (by
    have := h.lt
    exact (S2_at (List.getElem?_eq_getElem this) hk).trans (List.getElem?_eq_getElem this).symm)
/-- A list of the reference's so far. -/
def RL (E s : Nat) (m0 M : Mem) (kk : Nat) (es : List (List V)) : Prop := es ≠ [] → M[kk]? = some (.row E s es) ∧ m0.length ≤ kk
theorem RL.k1 {E s c : Nat} {m0 M M' : Mem} {kk : Nat} {es : List (List V)} (h : RL E s m0 M kk es) (hk : K1 c M M') (hc : c < m0.length) : RL E s m0 M' kk es := fun he => by
  obtain ⟨h1, h2⟩ := h he
  exact ⟨hk.2 kk _ (by omega) h1, h2⟩
/-- What is read so far of n elements: all of them, or something was wrong. -/
def RP {α : Type} (pe : List Nat → Option (α × List Nat)) (S1 : Option (List Nat)) (n j : Nat) (l : List α) : Option (List Nat) → Prop
  | some r => ∃ r1, S1 = some r1 ∧ rdMany pe r1 j = some (l, r)
  | none => (S1.bind fun r1 => rdMany pe r1 n) = none
theorem RP.step {α : Type} {pe : List Nat → Option (α × List Nat)} {S1 : Option (List Nat)} {n j : Nat} {l : List α} {r : List Nat} (h : RP pe S1 n j l (some r)) (hj : j < n) (a : α) (S' : Option (List Nat)) (h1 : ∀ r', S' = some r' → pe r = some (a, r')) (h2 : S' = none → pe r = none) : RP pe S1 n (j + 1) (l ++ [a]) S' := by
  obtain ⟨r1, g1, g2⟩ := h
  cases S' with
  | some r' =>
    refine ⟨r1, g1, ?_⟩
    simp only [rdMany, g2, Option.bind_some, h1 r' rfl, Option.map_some]
  | none =>
    show (S1.bind fun r1 => rdMany pe r1 n) = none
    rw [g1, Option.bind_some]
    exact rdMany_none (j := j + 1) (by omega) (by simp only [rdMany, g2, Option.bind_some, h2 rfl, Option.map_none])
theorem RP.fin {α : Type} {pe : List Nat → Option (α × List Nat)} {S1 : Option (List Nat)} {n j : Nat} {l : List α} {S' : Option (List Nat)} (h : RP pe S1 n j l S') (hj : j = n ∨ S' = none) : S' = (S1.bind fun r1 => rdMany pe r1 n).map (·.2) ∧ ∀ p, (S1.bind fun r1 => rdMany pe r1 n) = some p → l = p.1 := by
  cases S' with
  | some r =>
    obtain ⟨r1, g1, g2⟩ := h
    obtain rfl : j = n := hj.resolve_right (by simp)
    rw [g1, Option.bind_some, g2]
    exact ⟨rfl, fun p hp => by cases hp; rfl⟩
  | none =>
    have h : (S1.bind fun r1 => rdMany pe r1 n) = none := h
    rw [h]
    exact ⟨rfl, fun p hp => by cases hp⟩
theorem RP.bind {α : Type} (pe : List Nat → Option (α × List Nat)) (S : Option (List Nat)) : ((nS 2 S).bind fun r1 => rdMany pe r1 (nV 2 S)) = S.bind (rdL pe) := by
  unfold nS nV
  cases S with
  | none => rfl
  | some r =>
    simp only [Option.bind_some]
    cases h : rdN 2 r with
    | none => unfold rdL; rw [h]; rfl
    | some p => unfold rdL; rw [h]; rfl
theorem nV_lt {n : Nat} {S : Option (List Nat)} (hS : ∀ r, S = some r → Byt r) : nV n S < 256 ^ n := by
  unfold nV
  cases S with
  | none => exact Nat.pow_pos (by omega)
  | some r =>
    simp only [Option.bind_some]
    cases h : rdN n r with
    | none => exact Nat.pow_pos (by omega)
    | some p => exact rdN_lt (hS r rfl) h
theorem RdS.byt {m : Mem} {c : Nat} {b : List Nat} {S : Option (List Nat)} (hb : Byt b) (h : RdS m c b S) : ∀ r, S = some r → Byt r := by
  rintro r rfl
  obtain ⟨a, _, rfl, _⟩ := h
  exact hb.drop a
/-- The flag that something was wrong. -/
theorem RdS.bad {m : Mem} {c : Nat} {b : List Nat} {S : Option (List Nat)} (h : RdS m c b S) : ∃ a, m[c]? = some (.var 77 [byV b, .int .i64 a, .bool S.isNone]) := by
  cases S with
  | none => obtain ⟨a, _, h⟩ := h; exact ⟨_, h⟩
  | some r => obtain ⟨a, _, _, h⟩ := h; exact ⟨_, h⟩
/-- What comes of a reading call of the reference that answers more. -/
def QX {α : Type} (c : Nat) (m : Mem) (b : List Nat) (pe : List Nat → Option (α × List Nat)) (W : α → V) (ok : α → Prop) (S : Option (List Nat)) (r : CR) : Prop :=
  ∃ m' l, r = .ret (W l) m' ∧ K1 c m m' ∧ RdS m' c b ((S.bind pe).map (·.2)) ∧ ok l ∧ ∀ p, S.bind pe = some p → l = p.1
set_option maxHeartbeats 2000000 in
theorem snd25 {m : Mem} {c : Nat} {b : List Nat} {S : Option (List Nat)} (hb : Byt b) (hS : RdS m c b S) : Snd Try.prog 25 [.ptr c 0] m (QX c m b rdP poV (fun _ => True) S) := by
  refine Snd_frzR (Q := fun r => ∃ m' kk l, r = .ret (bufR 1 kk (l.map poC)) m' ∧ K1 c m m' ∧ RL 32 1 m m' kk (l.map poC) ∧ RdS m' c b ((S.bind rdP).map (·.2)) ∧ ∀ p, S.bind rdP = some p → l = p.1) ?_ ?_ ?_
  rotate_left
  · rintro v M ⟨m', kk, l, e, h1, h2, h3, h4⟩
    cases e
    have hcl := hS.lt
    cases l with
    | nil => exact ⟨.nils, M, poV [], rfl, nil_isl, M, [], rfl, h1, h3, trivial, h4⟩
    | cons a l =>
      obtain ⟨g1, g2⟩ := h2 (by simp)
      refine ⟨.isl 1 ((a :: l).map poC), M.set kk .dead, poV (a :: l), ?_, fun h => h, M.set kk .dead, a :: l, rfl, ⟨by simpa using h1.1, fun n b' hn hm => by rw [List.getElem?_set_ne (by have := (List.getElem?_eq_some_iff.1 hm).1; omega)]; exact h1.2 n b' hn hm⟩, h3.at (List.getElem?_set_ne (by omega)), trivial, h4⟩
      exact frz_row g1 (by simp)
  · rintro v M ⟨m', kk, l, e, _⟩
    cases e
  refine Snd_of_W fol rfl rfl (by kernel_rfl) (by kernel_rfl) ?_
  have hcl := hS.lt
  have hnn : ∀ k o, nonnil (.ptr k o) = true := fun _ _ => rfl
  have ev : ∀ env, evO env (.const (.slice none 0 0)) = .nils := fun _ => rfl
  simp -implicitDefEqProofs only [sims.1, keeps.1, tick_on, calleeK, Nat.reduceEqDiff, ev]
  refine callD_q (snd24 (n := 2) hb hS (by omega) (by omega)) en24 ?_ ?_
  rotate_left
  · rintro v m1 ⟨m', e, _⟩
    cases e
  rintro v m1 ⟨m', e, k1, s1, _⟩
  cases e
  have hn := nV_lt (n := 2) (hS.byt hb)
  have hbind := RP.bind (rdN 2) S
  generalize nV 2 S = n at hn hbind ⊢
  generalize nS 2 S = Sa at s1 hbind
  have hbind : Sa.bind (fun r1 => rdMany (rdN 2) r1 n) = S.bind rdP := hbind
  have w0 : IntKind.i64.wrap (n : Int) = (n : Int) := by rw [IntKind.wrap_i64]; omega
  simp -implicitDefEqProofs only [sims.1, fx.1, keeps.1, tick_on, Nat.reduceEqDiff, w0]
  refine W_loopM (fun x : Nat × V => [(4, V.int .i64 (n : Int)), (0, V.ptr c 0), (5, V.int .i64 (x.1 : Int)), (3, x.2)])
    (fun x M => x.1 ≤ n ∧ ∃ l S' kk, x.2 = bufR 1 kk (l.map poC) ∧ K1 c m M ∧ RdS M c b S' ∧ RL 32 1 m M kk (l.map poC) ∧ RP (rdN 2) Sa n x.1 l S' ∧ l.length = x.1) (fun x => n + 1 - x.1) (0, .nils) (by kernel_rfl)
    ⟨by omega, [], Sa, 0, rfl, k1, s1, fun h => absurd rfl h, ?_, rfl⟩ ?_
  · cases Sa with
    | some r => exact ⟨r, rfl, rfl⟩
    | none => rfl
  rintro ⟨j, v⟩ M ⟨h1, l, S', kk, rfl, h2, h3, h4, h5, h6⟩
  simp only at h1 h5 h6
  have lt1 : decide ((j : Int) < (n : Int)) = decide (j < n) := by rw [Bool.eq_iff_iff]; simp
  obtain ⟨a0, hbad⟩ := h3.bad
  cases d1 : decide (j < n)
  · obtain rfl : j = n := by have := of_decide_eq_false d1; omega
    simp -implicitDefEqProofs only [sims.1, fx.1, keeps.1, tick_on, Nat.reduceEqDiff, lt1, d1]
    obtain ⟨g1, g2⟩ := h5.fin (.inl rfl)
    rw [hbind] at g1 g2
    exact ⟨M, kk, l, rfl, h2, h4, g1 ▸ h3, g2⟩
  have hj := of_decide_eq_true d1
  cases S' with
  | none =>
    simp only [Option.isNone_none] at hbad
    simp -implicitDefEqProofs only [sims.1, fx.1, keeps.1, tick_on, faddrK, nonnil, Nat.reduceEqDiff, lt1, d1, hbad]
    obtain ⟨g1, g2⟩ := h5.fin (.inr rfl)
    rw [hbind] at g1 g2
    exact ⟨M, kk, l, rfl, h2, h4, g1 ▸ h3, g2⟩
  | some r =>
  simp only [Option.isNone_some] at hbad
  simp -implicitDefEqProofs only [sims.1, fx.1, keeps.1, tick_on, calleeK, faddrK, nonnil, Nat.reduceEqDiff, lt1, d1, hbad]
  refine callD_q (snd24 (n := 2) hb h3 (by omega) (by omega)) en24 ?_ ?_
  rotate_left
  · rintro v m1 ⟨m', e, _⟩
    cases e
  rintro v M1 ⟨m', e, k2, s2, _⟩
  cases e
  have hx := nV_lt (n := 2) (h3.byt hb)
  have hst := h5.step hj (nV 2 (some r)) (nS 2 (some r)) (fun r' hr => by
    unfold nS at hr
    unfold nV
    rw [Option.bind_some] at hr ⊢
    cases h : rdN 2 r with
    | none => rw [h] at hr; cases hr
    | some p => rw [h] at hr; cases hr; rfl) (fun hr => by
    unfold nS at hr
    rw [Option.bind_some] at hr
    cases h : rdN 2 r with
    | none => rfl
    | some p => rw [h] at hr; cases hr)
  generalize nV 2 (some r) = x at hx hst ⊢
  generalize nS 2 (some r) = S2' at s2 hst
  have w1 : IntKind.u16.wrap (x : Int) = (x : Int) := by rw [IntKind.wrap_u16]; omega
  have w2 := add1N j (by omega)
  have hb1 := bs1 (P := Try.prog) (m := M1) (v := .int .u16 (x : Int)) un33L ze32L rfl rfl (by omega) rfl
  have hR := h4.k1 k2 hcl
  have hap := apR (P := Try.prog) (m := M1 ++ [.row 32 1 [poC x]]) (x := poC x) (es := l.map poC) (k := M1.length) (n := kk) un33L ze32L is33L (by omega) at_app0 (fun he => by rw [List.getElem?_append_left (List.getElem?_eq_some_iff.1 (hR he).1).1]; exact (hR he).1) (by rw [List.length_map]; omega)
  have hb1 : bsliceV Try.prog 33 1 [(0, .int .u16 (x : Int))] M1 = some (.sl 1 M1.length 0 1, M1 ++ [.row 32 1 [poC x]]) := hb1
  simp -implicitDefEqProofs only [sims.1, fx.1, keeps.1, tick_on, Nat.reduceEqDiff, w1, hb1, hap, w2]
  refine ⟨(j + 1, bufR 1 (M1 ++ [B.row 32 1 [poC x]]).length (l.map poC ++ [poC x])), by kernel_rfl, ⟨by omega, l ++ [x], S2', (M1 ++ [B.row 32 1 [poC x]]).length, by simp, ?_, ?_, ?_, hst, by simp [h6]⟩, by simp only; omega⟩
  · exact (h2.trans k2).S2 (E := 32) (s := 1) (x := poC x) fun he => (hR he).2
  · exact s2.S2 (E := 32) (s := 1) (x := poC x) fun he => by have := (hR he).2; omega
  · intro _
    have hl2 : (killE (S1 M1 32 1 (poC x)) kk (l.map poC)).length = (M1 ++ [B.row 32 1 [poC x]]).length := by rw [killE_len]; rfl
    refine ⟨?_, by have := h2.1; have := k2.1; simp; omega⟩
    rw [List.map_append]
    show (killE (S1 M1 32 1 (poC x)) kk (l.map poC) ++ [B.row 32 1 (l.map poC ++ [poC x])])[(M1 ++ [B.row 32 1 [poC x]]).length]? = _
    rw [← hl2]
    exact at_app0
end Go.Proofs.Ytjjenpdjmcmgbaa
namespace Go.Proofs.Ytjjenpdjmcmgbaa
open Go Ab
set_option linter.unusedSimpArgs false
set_option linter.unusedVariables false
set_option maxRecDepth 20000
theorem enc_snoc (v n : Nat) : enc v (n + 1) = enc (v / 256) n ++ [v % 256] := by
  unfold enc
  rw [putB_snoc]
  congr 1
  · unfold putB
    refine List.map_congr_left fun i hi => ?_
    have hi := List.mem_range.1 hi
    rw [Nat.div_div_eq_div_mul, show (256 : Nat) = 2 ^ 8 from rfl, ← Nat.pow_add]
    congr 3
    omega
  · simp
theorem enc_beV : ∀ (n : Nat) (l : List Nat), l.length = n → (∀ b ∈ l, b < 256) → enc (beV l) n = l
  | 0, l, h, _ => by rw [List.eq_nil_of_length_eq_zero h]; rfl
  | n + 1, l, h, hb => by
    have hne : l ≠ [] := by intro e; rw [e] at h; simp at h
    obtain ⟨l', b, rfl⟩ : ∃ l' b, l = l' ++ [b] := ⟨l.dropLast, l.getLast hne, (List.dropLast_concat_getLast hne).symm⟩
    have hb1 : b < 256 := hb b (by simp)
    have h2 : l'.length = n := by simpa using h
    rw [beV_snoc, enc_snoc, show (beV l' * 256 + b) / 256 = beV l' by omega, show (beV l' * 256 + b) % 256 = b by omega, enc_beV n l' h2 fun c hc => hb c (by simp [hc])]
theorem rdN_inv {n : Nat} {rest : List Nat} {p : Nat × List Nat} (h : Byt rest) (e : rdN n rest = some p) : rest = enc p.1 n ++ p.2 := by
  unfold rdN at e
  split at e
  · rename_i hn
    cases e
    show rest = enc (beV (rest.take n)) n ++ rest.drop n
    rw [enc_beV n (rest.take n) (by rw [List.length_take]; omega) fun b hb => h.1 b (List.mem_of_mem_take hb), List.take_append_drop]
  · cases e
theorem rdMany_inv {α : Type} {pe : List Nat → Option (α × List Nat)} {ec : α → List Nat} (hP : ∀ r p, Byt r → pe r = some p → Byt p.2 ∧ r = ec p.1 ++ p.2) {rest : List Nat} (h : Byt rest) : ∀ {n : Nat} {t : List α × List Nat}, rdMany pe rest n = some t → rest = t.1.flatMap ec ++ t.2
  | 0, t, e => by cases e; rfl
  | n + 1, t, e => by
    simp only [rdMany] at e
    obtain ⟨u, h1, e⟩ := bind_some' e
    obtain ⟨a, h2, rfl⟩ := map_some' e
    have ih := rdMany_inv hP h h1
    have g := hP _ _ (rdMany_byt (fun r p hr he => (hP r p hr he).1) h h1) h2
    rw [ih, g.2]
    simp
theorem rdL_inv {α : Type} {pe : List Nat → Option (α × List Nat)} {ec : α → List Nat} (hP : ∀ r p, Byt r → pe r = some p → Byt p.2 ∧ r = ec p.1 ++ p.2) {rest : List Nat} (h : Byt rest) {t : List α × List Nat} (e : rdL pe rest = some t) : rest = (enc t.1.length 2 ++ t.1.flatMap ec) ++ t.2 := by
  obtain ⟨u, h1, e⟩ := bind_some' e
  have g1 := rdN_inv h h1
  have g2 := rdMany_inv hP (rdN_byt h h1) e
  rw [rdMany_len e, List.append_assoc, ← g2]
  exact g1
theorem i8_to (a : Nat) (h : a < 256) : i8N (IntKind.i8.wrap (a : Int)) = a := by simp [IntKind.wrap, IntKind.bits, IntKind.signed, i8N]; omega
theorem i32_to (a : Nat) (h : a < 4294967296) : r32 (IntKind.i32.wrap (a : Int)) = a := by simp [IntKind.wrap, IntKind.bits, IntKind.signed, r32]; omega
theorem rdAc_inv {rest : List Nat} {p : Act × List Nat} (h : Byt rest) (e : rdAc rest = some p) : rest = encA p.1 ++ p.2 := by
  obtain ⟨a, h1, e⟩ := bind_some' e
  obtain ⟨b, h2, e⟩ := bind_some' e
  obtain ⟨n, h3, rfl⟩ := map_some' e
  have b1 := rdN_byt h h1
  have b2 := rdN_byt b1 h2
  have l1 := rdN_lt h h1
  have l2 := rdN_lt b1 h2
  rw [rdN_inv h h1, rdN_inv b1 h2, rdN_inv b2 h3]
  simp only [encA, i8_to a.1 l1, i8_to b.1 l2, List.append_assoc]
theorem rdC_inv (r : List Nat) (p : List Act × List Nat) (h : Byt r) (e : rdL rdAc r = some p) : Byt p.2 ∧ r = encC p.1 ++ p.2 :=
  ⟨rdL_byt (fun _ _ => rdAc_byt) h e, rdL_inv (ec := encA) (fun r p hr he => ⟨rdAc_byt hr he, rdAc_inv hr he⟩) h e⟩
theorem rdLL_inv {r : List Nat} {p : List (List Act) × List Nat} (h : Byt r) (e : rdL (rdL rdAc) r = some p) : r = encL p.1 ++ p.2 := rdL_inv (ec := encC) rdC_inv h e
theorem encF_eq {w w' : Nat → Nat} {f : Nat} (h1 : w f = w' f) (h2 : w (11 + f) = w' (11 + f)) : encF w f = encF w' f := by unfold encF; rw [h1, h2]
theorem flatF_eq {w w' : Nat → Nat} : ∀ (j : Nat), (∀ f, f < j → w f = w' f ∧ w (11 + f) = w' (11 + f)) → (List.range j).flatMap (encF w) = (List.range j).flatMap (encF w')
  | 0, _ => rfl
  | j + 1, h => by
    rw [List.range_succ, List.flatMap_append, List.flatMap_append, flatF_eq j fun f hf => h f (by omega)]
    simp only [List.flatMap_cons, List.flatMap_nil, List.append_nil]
    rw [encF_eq (h j (by omega)).1 (h j (by omega)).2]
theorem bitsN_eq {w w' : Nat → Nat} : ∀ (j : Nat), (∀ f, f < j → w (11 + f) = w' (11 + f)) → bitsN w j = bitsN w' j
  | 0, _ => rfl
  | j + 1, h => by
    simp only [bitsN]
    rw [bitsN_eq j fun f hf => h f (by omega), h j (by omega)]
/-- A match's fields, read and written again. -/
theorem rdFs_inv {bits : Nat} {rest : List Nat} (h : Byt rest) : ∀ {j : Nat} {t : (Nat → Nat) × List Nat}, j ≤ 11 → rdFs bits rest j = some t →
    rest = (List.range j).flatMap (encF t.1) ++ t.2 ∧ bitsN t.1 j = bits % 2 ^ j ∧ (∀ f, j ≤ f → f < 11 → t.1 f = 0) ∧ ∀ f, j ≤ f → t.1 (11 + f) = 0
  | 0, t, _, e => by
    cases e
    refine ⟨rfl, ?_, fun _ _ _ => rfl, fun _ _ => rfl⟩
    simp [bitsN, Nat.mod_one]
  | j + 1, t, hj, e => by
    simp only [rdFs] at e
    obtain ⟨u, h1, e⟩ := bind_some' e
    obtain ⟨i1, i2, i3, i4⟩ := rdFs_inv h (by omega) h1
    have hm : bits % 2 ^ (j + 1) = bits % 2 ^ j + 2 ^ j * (bits / 2 ^ j % 2) := by rw [Nat.pow_succ, Nat.mod_mul]
    split at e
    · rename_i hb
      cases e
      have z : t.1 (11 + j) = 0 := i4 j (Nat.le_refl _)
      refine ⟨?_, ?_, fun f hf => i3 f (by omega), fun f hf => i4 f (by omega)⟩
      · rw [List.range_succ, List.flatMap_append]
        have : encF t.1 j = [] := by unfold encF; rw [if_pos z]
        simp only [List.flatMap_cons, List.flatMap_nil, this, List.append_nil]
        exact i1
      · simp only [bitsN]
        rw [if_pos z, i2, hm, hb]
        simp
    · rename_i hb
      obtain ⟨a, h2, e⟩ := bind_some' e
      obtain ⟨b, h3, e⟩ := bind_some' e
      split at e
      · cases e
      · rename_i hz
        cases e
        have hu := rdFs_byt h h1
        have wj : updN (updN u.1 j a.1) (11 + j) b.1 j = a.1 := by unfold updN; rw [if_neg (by omega), if_pos rfl]
        have wm : updN (updN u.1 j a.1) (11 + j) b.1 (11 + j) = b.1 := by unfold updN; rw [if_pos rfl]
        have wo : ∀ f, f ≠ j → f ≠ 11 + j → updN (updN u.1 j a.1) (11 + j) b.1 f = u.1 f := fun f g1 g2 => by unfold updN; rw [if_neg g2, if_neg g1]
        refine ⟨?_, ?_, fun f hf hf2 => ?_, fun f hf => ?_⟩
        · rw [List.range_succ, List.flatMap_append, ← flatF_eq (w := u.1) (w' := updN (updN u.1 j a.1) (11 + j) b.1) j fun f hf => ⟨(wo f (by omega) (by omega)).symm, (wo (11 + f) (by omega) (by omega)).symm⟩]
          have : encF (updN (updN u.1 j a.1) (11 + j) b.1) j = enc a.1 (sz j) ++ enc b.1 (sz j) := by unfold encF; rw [wj, wm, if_neg hz]
          simp only [List.flatMap_cons, List.flatMap_nil, this, List.append_nil]
          rw [i1, rdN_inv hu h2, rdN_inv (rdN_byt hu h2) h3]
          simp
        · simp only [bitsN]
          rw [if_neg (by rw [wm]; exact hz), ← bitsN_eq (w := u.1) j fun f hf => (wo (11 + f) (by omega) (by omega)).symm, i2, hm]
          have : bits / 2 ^ j % 2 = 1 := by omega
          rw [this, Nat.mul_one]
        · exact (wo f (by omega) (by omega)).trans (i3 f (by omega) hf2)
        · exact (wo (11 + f) (by omega) (by omega)).trans (i4 f (by omega))
theorem rdM_inv {rest : List Nat} {t : (Nat → Nat) × List Nat} (h : Byt rest) (e : rdM rest = some t) : rest = encM t.1 ++ t.2 := by
  obtain ⟨n, h1, e⟩ := bind_some' e
  split at e
  · rename_i hb
    obtain ⟨i1, i2, _, _⟩ := rdFs_inv (rdN_byt h h1) (by omega) e
    have : n.1 % 2 ^ 11 = n.1 := Nat.mod_eq_of_lt (by have := Nat.div_add_mod n.1 (2 ^ 11); rw [hb] at this; have := Nat.mod_lt n.1 (show 0 < 2 ^ 11 by omega); omega)
    rw [this] at i2
    unfold encM
    rw [i2, List.append_assoc, ← i1]
    exact rdN_inv h h1
  · cases e
end Go.Proofs.Ytjjenpdjmcmgbaa
namespace Go.Proofs.Ytjjenpdjmcmgbaa
open Go Ab
set_option linter.unusedSimpArgs false
set_option linter.unusedVariables false
set_option maxRecDepth 20000
theorem rdR_inv {rest : List Nat} {p : Ru × List Nat} (h : Byt rest) (e : rdR rest = some p) : rest = encR p.1 ++ p.2 := by
  obtain ⟨a, h1, e⟩ := bind_some' e
  obtain ⟨b, h2, e⟩ := bind_some' e
  obtain ⟨w, h3, e⟩ := bind_some' e
  obtain ⟨t, h4, rfl⟩ := map_some' e
  have b1 := rdN_byt h h1
  have b2 := rdN_byt b1 h2
  have b3 := rdM_byt b2 h3
  have l1 := rdN_lt h h1
  rw [rdN_inv h h1, rdN_inv b1 h2, rdM_inv b2 h3, rdLL_inv b3 h4]
  simp only [encR, i32_to a.1 l1, List.append_assoc]
theorem rdH_inv {rest : List Nat} {p : He × List Nat} (h : Byt rest) (e : rdH rest = some p) : rest = encH p.1 ++ p.2 := by
  obtain ⟨r, h1, e⟩ := bind_some' e
  obtain ⟨a, h2, e⟩ := bind_some' e
  obtain ⟨b, h3, rfl⟩ := map_some' e
  have b1 := rdR_byt h h1
  rw [rdR_inv h h1, rdN_inv b1 h2, rdN_inv (rdN_byt b1 h2) h3]
  simp only [encH, List.append_assoc]
theorem rdHs_inv {r : List Nat} {p : List He × List Nat} (h : Byt r) (e : rdHs r = some p) : r = encHs p.1 ++ p.2 := rdL_inv (ec := encH) (fun _ _ hr he => ⟨rdH_byt hr he, rdH_inv hr he⟩) h e
theorem rdP_inv {r : List Nat} {p : List Nat × List Nat} (h : Byt r) (e : rdP r = some p) : r = encP p.1 ++ p.2 := rdL_inv (ec := fun x => enc x 2) (fun _ _ hr he => ⟨rdN_byt hr he, rdN_inv hr he⟩) h e
theorem rdB_inv {r : List Nat} {p : List Nat × List Nat} (h : Byt r) (e : rdB r = some p) : r = encB p.1 ++ p.2 := rdL_inv (ec := fun x => enc x 1) (fun _ _ hr he => ⟨rdN_byt hr he, rdN_inv hr he⟩) h e
theorem rdFl_inv {r : List Nat} {p : Bool × List Nat} (h : Byt r) (e : rdFl r = some p) : r = enc (b01 p.1) 1 ++ p.2 := by
  obtain ⟨a, h1, e⟩ := bind_some' e
  split at e
  · cases e
  · rename_i hn
    cases e
    show r = enc (b01 (decide (a.1 = 1))) 1 ++ a.2
    rw [rdN_inv h h1]
    congr 2
    rcases Nat.lt_or_ge a.1 1 with g | g
    · have : a.1 = 0 := by omega
      rw [this]; rfl
    · have : a.1 = 1 := by omega
      rw [this]; rfl
theorem body12 {x : Ms} (h : x.ty = 12) : body x = enc x.port 2 ++ enc (b01 x.up) 1 := by unfold body; rw [if_neg (by omega), if_neg (by omega), if_neg (by omega), if_neg (by omega), if_pos h]
theorem body13 {x : Ms} (h : x.ty = 13) : body x = enc x.code 2 := by unfold body; rw [if_neg (by omega), if_neg (by omega), if_neg (by omega), if_neg (by omega), if_neg (by omega), if_pos h]
theorem bodyN {x : Ms} (h4 : x.ty ≠ 4) (h5 : x.ty ≠ 5) (h6 : ¬ (x.ty = 6 ∨ x.ty = 7)) (h11 : x.ty ≠ 11) (h12 : x.ty ≠ 12) (h13 : x.ty ≠ 13) : body x = [] := by
  unfold body
  rw [if_neg h4, if_neg h5, if_neg h6, if_neg h11, if_neg h12, if_neg h13]
theorem rdBody_inv {t : Int} {i : Nat} {rest : List Nat} {p : Ms × List Nat} (h : Byt rest) (e : rdBody t i rest = some p) : rest = body p.1 ++ p.2 ∧ p.1.ty = t ∧ p.1.id = i := by
  unfold rdBody at e
  split at e
  · rename_i h4
    obtain ⟨a, h1, e⟩ := bind_some' e
    obtain ⟨b, h2, e⟩ := bind_some' e
    obtain ⟨d, h3, rfl⟩ := map_some' e
    have b1 := rdN_byt h h1
    refine ⟨?_, rfl, rfl⟩
    rw [body4 (show t = 4 from h4), rdN_inv h h1, rdP_inv b1 h2, rdP_inv (rdP_byt b1 h2) h3]
    simp only [List.append_assoc]
  rename_i h4
  split at e
  · rename_i h5
    obtain ⟨a, h1, e⟩ := bind_some' e
    obtain ⟨b, h2, rfl⟩ := map_some' e
    refine ⟨?_, rfl, rfl⟩
    rw [body5 (show t = 5 from h5), rdN_inv h h1, rdR_inv (rdN_byt h h1) h2]
    simp only [i8_to a.1 (rdN_lt h h1), List.append_assoc]
  rename_i h5
  split at e
  · rename_i h6
    obtain ⟨a, h1, e⟩ := bind_some' e
    obtain ⟨b, h2, rfl⟩ := map_some' e
    refine ⟨?_, rfl, rfl⟩
    rw [body6 (show t = 6 ∨ t = 7 from h6), rdN_inv h h1, rdB_inv (rdN_byt h h1) h2]
    simp only [List.append_assoc]
  rename_i h6
  split at e
  · rename_i h11
    obtain ⟨a, h1, e⟩ := bind_some' e
    obtain ⟨b, h2, rfl⟩ := map_some' e
    refine ⟨?_, rfl, rfl⟩
    rw [body11 (show t = 11 from h11), rdN_inv h h1, rdHs_inv (rdN_byt h h1) h2]
    simp only [List.append_assoc]
  rename_i h11
  split at e
  · rename_i h12
    obtain ⟨a, h1, e⟩ := bind_some' e
    obtain ⟨b, h2, rfl⟩ := map_some' e
    refine ⟨?_, rfl, rfl⟩
    rw [body12 (show t = 12 from h12), rdN_inv h h1, rdFl_inv (rdN_byt h h1) h2]
    simp only [List.append_assoc]
  rename_i h12
  split at e
  · rename_i h13
    obtain ⟨a, h1, rfl⟩ := map_some' e
    refine ⟨?_, rfl, rfl⟩
    rw [body13 (show t = 13 from h13), rdN_inv h h1]
  · rename_i h13
    cases e
    refine ⟨?_, rfl, rfl⟩
    rw [bodyN (show t ≠ 4 from h4) h5 h6 h11 h12 h13]
    rfl
end Go.Proofs.Ytjjenpdjmcmgbaa
namespace Go.Proofs.Ytjjenpdjmcmgbaa
open Go Ab
set_option linter.unusedSimpArgs false
set_option linter.unusedVariables false
set_option maxRecDepth 20000
theorem callD_n {m : Mem} {c n : Nat} {b : List Nat} {S : Option (List Nat)} {K Kp : V → Mem → Prop} (hb : Byt b) (hS : RdS m c b S) (h0 : 0 < n) (hn : n ≤ 8) (hk : ∀ m', K1 c m m' → RdS m' c b (nS n S) → K (.int .u64 (nV n S : Int)) m') : callD Try.prog 24 [.ptr c 0, .int .i64 (n : Int)] m K Kp := by
  refine callD_q (snd24 hb hS h0 hn) en24 ?_ ?_
  · rintro v m1 ⟨m', e, k1, s1, _⟩
    cases e
    exact hk _ k1 s1
  · rintro v m1 ⟨m', e, _⟩
    cases e
theorem callD_nl {m : Mem} {c n : Nat} {b : List Nat} {S : Option (List Nat)} {K Kp : V → Mem → Prop} (hb : Byt b) (hS : RdS m c b S) (h0 : 0 < n) (hn : n ≤ 8) (hk : ∀ m', K1 c m m' → RdS m' c b (nS n S) → m'.length = m.length → K (.int .u64 (nV n S : Int)) m') : callD Try.prog 24 [.ptr c 0, .int .i64 (n : Int)] m K Kp := by
  refine callD_q (snd24 hb hS h0 hn) en24 ?_ ?_
  · rintro v m1 ⟨m', e, k1, s1, l1⟩
    cases e
    exact hk _ k1 s1 l1
  · rintro v m1 ⟨m', e, _⟩
    cases e
theorem nS_some {n : Nat} {S : Option (List Nat)} {r' : List Nat} (h : nS n S = some r') : ∃ r, S = some r ∧ rdN n r = some (nV n S, r') := by
  unfold nS at h
  cases S with
  | none => cases h
  | some r =>
    rw [Option.bind_some] at h
    cases e : rdN n r with
    | none => rw [e] at h; cases h
    | some p =>
      rw [e] at h
      cases h
      exact ⟨r, rfl, by unfold nV; rw [Option.bind_some, e]⟩
theorem nS_none {n : Nat} {S : Option (List Nat)} (h : nS n S = none) : S.bind (rdN n) = none := by
  unfold nS at h
  exact map_none' h
/-- An action, read by the reference. -/
def actS (S : Option (List Nat)) : Act := ⟨IntKind.i8.wrap (nV 1 S : Int), IntKind.i8.wrap (nV 1 (nS 1 S) : Int), nV 8 (nS 1 (nS 1 S))⟩
theorem actS_some {r r' : List Nat} (h : nS 8 (nS 1 (nS 1 (some r))) = some r') : rdAc r = some (actS (some r), r') := by
  obtain ⟨r2, h2, e3⟩ := nS_some h
  obtain ⟨r1, h1, e2⟩ := nS_some h2
  obtain ⟨r0, h0, e1⟩ := nS_some h1
  cases h0
  unfold rdAc
  rw [e1, Option.bind_some]
  simp only
  rw [e2, Option.bind_some]
  simp only
  rw [e3]
  rfl
theorem actS_none {r : List Nat} (h : nS 8 (nS 1 (nS 1 (some r))) = none) : rdAc r = none := by
  unfold rdAc
  cases h1 : rdN 1 r with
  | none => rfl
  | some a =>
    have e1 : nS 1 (some r) = some a.2 := by unfold nS; rw [Option.bind_some, h1]; rfl
    rw [e1] at h
    rw [Option.bind_some]
    cases h2 : rdN 1 a.2 with
    | none => rfl
    | some b' =>
      have e2 : nS 1 (some a.2) = some b'.2 := by unfold nS; rw [Option.bind_some, h2]; rfl
      rw [e2] at h
      rw [Option.bind_some]
      have := nS_none h
      rw [Option.bind_some] at this
      rw [this]
      rfl
/-- What is read so far of a match's fields. -/
def RF (bits : Nat) (S3 : Option (List Nat)) (j : Nat) (w : Nat → Nat) : Option (List Nat) → Prop
  | some r => ∃ r3, S3 = some r3 ∧ rdFs bits r3 j = some (w, r)
  | none => (S3.bind fun r3 => rdFs bits r3 11) = none
theorem RF.skip {bits : Nat} {S3 : Option (List Nat)} {j : Nat} {w : Nat → Nat} {S' : Option (List Nat)} (h : RF bits S3 j w S') (hb : bits / 2 ^ j % 2 = 0) : RF bits S3 (j + 1) w S' := by
  cases S' with
  | none => exact h
  | some r =>
    obtain ⟨r3, h1, h2⟩ := h
    exact ⟨r3, h1, by simp only [rdFs, h2, Option.bind_some, if_pos hb]⟩
theorem RF.step {bits : Nat} {S3 : Option (List Nat)} {j : Nat} {w : Nat → Nat} {S' : Option (List Nat)} (h : RF bits S3 j w S') (hj : j < 11) (hb : ¬ bits / 2 ^ j % 2 = 0) :
    RF bits S3 (j + 1) (updN (updN w j (nV (sz j) S')) (11 + j) (nV (sz j) (nS (sz j) S'))) (if nV (sz j) (nS (sz j) S') = 0 then none else nS (sz j) (nS (sz j) S')) := by
  have bad : S'.bind (fun r => (rdN (sz j) r).bind fun a => (rdN (sz j) a.2).bind fun b => if b.1 = 0 then none else some b) = none → RF bits S3 (j + 1) (updN (updN w j (nV (sz j) S')) (11 + j) (nV (sz j) (nS (sz j) S'))) none := by
    intro e
    show (S3.bind fun r3 => rdFs bits r3 11) = none
    cases S' with
    | none => exact h
    | some r =>
      obtain ⟨r3, h1, h2⟩ := h
      rw [h1, Option.bind_some]
      rw [Option.bind_some] at e
      refine rdFs_none (j := j + 1) (by omega) ?_
      simp only [rdFs, h2, Option.bind_some, if_neg hb]
      cases d1 : rdN (sz j) r with
      | none => rfl
      | some a =>
        rw [d1] at e
        simp only [Option.bind_some] at e ⊢
        cases d2 : rdN (sz j) a.2 with
        | none => rfl
        | some b =>
          rw [d2] at e
          simp only [Option.bind_some] at e ⊢
          split
          · rfl
          · rename_i hz
            rw [if_neg hz] at e
            cases e
  cases S' with
  | none =>
    have e : nS (sz j) (nS (sz j) none) = none := rfl
    rw [e]
    simp only [ite_self]
    exact bad rfl
  | some r =>
    obtain ⟨r3, h1, h2⟩ := h
    cases d1 : rdN (sz j) r with
    | none =>
      have e1 : nS (sz j) (some r) = none := by unfold nS; rw [Option.bind_some, d1]; rfl
      rw [e1]
      have e2 : nS (sz j) none = none := rfl
      rw [e2]
      simp only [ite_self]
      rw [e1] at bad
      exact bad (by rw [Option.bind_some, d1]; rfl)
    | some a =>
      have e1 : nS (sz j) (some r) = some a.2 := by unfold nS; rw [Option.bind_some, d1]; rfl
      have v1 : nV (sz j) (some r) = a.1 := by unfold nV; rw [Option.bind_some, d1]
      rw [e1] at bad ⊢
      cases d2 : rdN (sz j) a.2 with
      | none =>
        have e2 : nS (sz j) (some a.2) = none := by unfold nS; rw [Option.bind_some, d2]; rfl
        rw [e2]
        simp only [ite_self]
        exact bad (by rw [Option.bind_some, d1, Option.bind_some, d2]; rfl)
      | some b =>
        have e2 : nS (sz j) (some a.2) = some b.2 := by unfold nS; rw [Option.bind_some, d2]; rfl
        have v2 : nV (sz j) (some a.2) = b.1 := by unfold nV; rw [Option.bind_some, d2]
        rw [e2]
        by_cases hz : nV (sz j) (some a.2) = 0
        · rw [if_pos hz]
          refine bad ?_
          rw [Option.bind_some, d1, Option.bind_some, d2, Option.bind_some, if_pos (by rw [← v2]; exact hz)]
        · rw [if_neg hz]
          refine ⟨r3, h1, ?_⟩
          rw [v1, v2]
          rw [v2] at hz
          simp only [rdFs, h2, Option.bind_some, if_neg hb, d1, d2, if_neg hz]
/-- A match, read by the reference behind its bits. -/
theorem RF.fin {S2 : Option (List Nat)} {w : Nat → Nat} {S' : Option (List Nat)} (h : RF (nV 2 S2) (if nV 2 S2 / 2 ^ 11 = 0 then nS 2 S2 else none) 11 w S') : S' = (S2.bind rdM).map (·.2) ∧ ∀ p, S2.bind rdM = some p → w = p.1 := by
  have key : (if nV 2 S2 / 2 ^ 11 = 0 then nS 2 S2 else none).bind (fun r3 => rdFs (nV 2 S2) r3 11) = S2.bind rdM := by
    cases S2 with
    | none => rfl
    | some r =>
      unfold nV nS rdM
      simp only [Option.bind_some]
      cases e : rdN 2 r with
      | none => simp
      | some p =>
        simp only [Option.map_some, Option.bind_some]
        split
        · rfl
        · rfl
  cases S' with
  | none =>
    have h : _ = none := h
    rw [key] at h
    rw [h]
    exact ⟨rfl, fun p hp => by cases hp⟩
  | some r =>
    obtain ⟨r3, h1, h2⟩ := h
    rw [h1, Option.bind_some, h2] at key
    rw [← key]
    exact ⟨rfl, fun p hp => by cases hp; rfl⟩
theorem rk4_atM {a : Int} {w : Nat → Nat} {L : V} {ck j : Nat} (hj : j < 22) : (rk4 a w L ck)[1 + j]? = some (.int .u64 (w j : Int)) := by
  rw [Nat.add_comm]
  show (mC w ++ [L, .int .u64 (ck : Int)])[j]? = _
  rw [List.getElem?_append_left (by rw [mC_length]; exact hj)]
  exact cl_get hj
theorem rk4_setM {a : Int} {w : Nat → Nat} {L : V} {ck j v : Nat} (hj : j < 22) : (rk4 a w L ck).set (1 + j) (.int .u64 (v : Int)) = rk4 a (updN w j v) L ck := by
  rw [Nat.add_comm]
  show V.int .i64 a :: (mC w ++ [L, .int .u64 (ck : Int)]).set j _ = _
  rw [List.set_append_left _ _ (by rw [mC_length]; exact hj), mC_upd hj]
  rfl
theorem rk4_setL {a : Int} {w : Nat → Nat} {L L' : V} {ck : Nat} : (rk4 a w L ck).set 23 L' = rk4 a w L' ck := by
  show V.int .i64 a :: (mC w ++ [L, .int .u64 (ck : Int)]).set 22 L' = _
  rw [List.set_append_right _ _ (by rw [mC_length]; omega), mC_length]
  rfl
/-- Copies as the reference keeps them: an empty one is nil. -/
def cpN (c : List Act) : V := if c = [] then .nils else cpV c
section
variable {N : Nat} {ρ : Pl} {I : Nat → Prop} {w : World}
theorem cpN_RV {c : List Act} {x : Value} (h : RV N ρ I w (cpN c) x) : RV N ρ I w (cpV c) x := by
  unfold cpN at h
  split at h
  · rename_i e
    rw [e]
    exact nil_isl h
  · exact h
theorem cpN_Rcc : ∀ {l : List (List Act)} {c : Array Value} {o : Nat}, Rcc N ρ I w (l.map fun c => [cpN c]) c o 1 → Rcc N ρ I w (l.map fun c => [cpV c]) c o 1
  | [], _, _, h => h
  | a :: r, c, o, h => by
    simp only [List.map_cons, Rcc, Rc] at h ⊢
    obtain ⟨⟨h1, ⟨x, h2, h3, h4⟩, h5⟩, h6⟩ := h
    exact ⟨⟨rfl, ⟨x, h2, h3, cpN_RV h4⟩, h5⟩, cpN_Rcc h6⟩
theorem cps_RV {l : List (List Act)} {x : Value} (h : RV N ρ I w (.isl 1 (l.map fun c => [cpN c])) x) : RV N ρ I w (cpsV l) x := by
  unfold cpsV
  simp only [RV] at h ⊢
  obtain ⟨a, cap, h1, h2, h3⟩ := h
  refine ⟨a, cap, by simpa using h1, by simpa using h2, ?_⟩
  rcases h3 with h3 | ⟨b, o, c, ty, fr, g1, g2, g3, g4, g5⟩
  · exact .inl (by simpa using h3)
  · exact .inr ⟨b, o, c, ty, fr, g1, g2, g3, cpN_Rcc g4, by simpa using g5⟩
end
end Go.Proofs.Ytjjenpdjmcmgbaa
