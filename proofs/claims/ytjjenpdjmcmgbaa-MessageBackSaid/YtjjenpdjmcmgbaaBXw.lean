/- What is written is read as it was, what is read is written as it was: numbers and lists. No condition. What is written is read as it was, what is read is written as it was: messages. No condition. -/
import Derived.Test.YtjjenpdjmcmgbaaBXu
namespace Go.Proofs.Ytjjenpdjmcmgbaa
open Go Ab
set_option linter.unusedSimpArgs false
set_option linter.unusedVariables false
set_option maxRecDepth 20000
theorem enc_snoc (v n : Nat) : enc v (n + 1) = enc (v / 256) n ++ [v % 256] := by
  unfold enc
  rw [putB_snoc]
  congr 1
  · unfold putB
    refine List.map_congr_left fun i hi => ?_
    have hi := List.mem_range.1 hi
    rw [Nat.div_div_eq_div_mul, show (256 : Nat) = 2 ^ 8 from rfl, ← Nat.pow_add]
    congr 3
    omega
  · simp
theorem beV_enc : ∀ (n v : Nat), v < 256 ^ n → beV (enc v n) = v
  | 0, v, h => by
    have : v = 0 := by simpa using h
    rw [this]
    rfl
  | n + 1, v, h => by
    rw [enc_snoc, beV_snoc, beV_enc n (v / 256) (by rw [Nat.pow_succ] at h; omega)]
    omega
theorem enc_beV : ∀ (n : Nat) (l : List Nat), l.length = n → (∀ b ∈ l, b < 256) → enc (beV l) n = l
  | 0, l, h, _ => by rw [List.eq_nil_of_length_eq_zero h]; rfl
  | n + 1, l, h, hb => by
    have hne : l ≠ [] := by intro e; rw [e] at h; simp at h
    obtain ⟨l', b, rfl⟩ : ∃ l' b, l = l' ++ [b] := ⟨l.dropLast, l.getLast hne, (List.dropLast_concat_getLast hne).symm⟩
    have hb1 : b < 256 := hb b (by simp)
    have h2 : l'.length = n := by simpa using h
    rw [beV_snoc, enc_snoc, show (beV l' * 256 + b) / 256 = beV l' by omega, show (beV l' * 256 + b) % 256 = b by omega, enc_beV n l' h2 fun c hc => hb c (by simp [hc])]
theorem rdN_enc {n v : Nat} (h : v < 256 ^ n) (r : List Nat) : rdN n (enc v n ++ r) = some (v, r) := by
  unfold rdN
  have hl : (enc v n).length = n := enc_len v n
  rw [if_pos (by rw [List.length_append]; omega)]
  have h1 : (enc v n ++ r).take n = enc v n := by rw [List.take_append_of_le_length (by omega), List.take_of_length_le (by omega)]
  have h2 : (enc v n ++ r).drop n = r := by rw [List.drop_append_of_le_length (by omega), List.drop_of_length_le (by omega), List.nil_append]
  rw [h1, h2, beV_enc n v h]
theorem rdN_inv {n : Nat} {rest : List Nat} {p : Nat × List Nat} (h : Byt rest) (e : rdN n rest = some p) : rest = enc p.1 n ++ p.2 := by
  unfold rdN at e
  split at e
  · rename_i hn
    cases e
    show rest = enc (beV (rest.take n)) n ++ rest.drop n
    rw [enc_beV n (rest.take n) (by rw [List.length_take]; omega) fun b hb => h.1 b (List.mem_of_mem_take hb), List.take_append_drop]
  · cases e
theorem rdMany_inv {α : Type} {pe : List Nat → Option (α × List Nat)} {ec : α → List Nat} (hP : ∀ r p, Byt r → pe r = some p → Byt p.2 ∧ r = ec p.1 ++ p.2) {rest : List Nat} (h : Byt rest) : ∀ {n : Nat} {t : List α × List Nat}, rdMany pe rest n = some t → rest = t.1.flatMap ec ++ t.2
  | 0, t, e => by cases e; rfl
  | n + 1, t, e => by
    simp only [rdMany] at e
    obtain ⟨u, h1, e⟩ := bind_some' e
    obtain ⟨a, h2, rfl⟩ := map_some' e
    have ih := rdMany_inv hP h h1
    have g := hP _ _ (rdMany_byt (fun r p hr he => (hP r p hr he).1) h h1) h2
    rw [ih, g.2]
    simp
theorem rdL_inv {α : Type} {pe : List Nat → Option (α × List Nat)} {ec : α → List Nat} (hP : ∀ r p, Byt r → pe r = some p → Byt p.2 ∧ r = ec p.1 ++ p.2) {rest : List Nat} (h : Byt rest) {t : List α × List Nat} (e : rdL pe rest = some t) : rest = (enc t.1.length 2 ++ t.1.flatMap ec) ++ t.2 := by
  obtain ⟨u, h1, e⟩ := bind_some' e
  have g1 := rdN_inv h h1
  have g2 := rdMany_inv hP (rdN_byt h h1) e
  rw [rdMany_len e, List.append_assoc, ← g2]
  exact g1
/-- Lists are read as they were, told by C. -/
theorem rdMany_enc {α β : Type} {pe : List Nat → Option (α × List Nat)} {ec : α → List Nat} (C : α → β) : ∀ (k : Nat) (l : List α), l.length = k → (∀ a ∈ l, ∃ a', C a' = C a ∧ ∀ r, pe (ec a ++ r) = some (a', r)) → ∃ l', l'.map C = l.map C ∧ ∀ r, rdMany pe (l.flatMap ec ++ r) k = some (l', r)
  | 0, l, h, _ => by
    rw [List.eq_nil_of_length_eq_zero h]
    exact ⟨[], rfl, fun _ => rfl⟩
  | k + 1, l, h, hP => by
    have hne : l ≠ [] := by intro e; rw [e] at h; simp at h
    obtain ⟨l1, a, rfl⟩ : ∃ l' b, l = l' ++ [b] := ⟨l.dropLast, l.getLast hne, (List.dropLast_concat_getLast hne).symm⟩
    obtain ⟨a', h1, h2⟩ := hP a (by simp)
    obtain ⟨l', h3, h4⟩ := rdMany_enc C k l1 (by simpa using h) fun b hb => hP b (by simp [hb])
    refine ⟨l' ++ [a'], by simp [h3, h1], fun r => ?_⟩
    have e : (l1 ++ [a]).flatMap ec ++ r = l1.flatMap ec ++ (ec a ++ r) := by simp
    rw [e]
    simp only [rdMany, h4, Option.bind_some, h2, Option.map_some]
theorem rdL_enc {α β : Type} {pe : List Nat → Option (α × List Nat)} {ec : α → List Nat} (C : α → β) {l : List α} (hl : l.length < 65536) (hP : ∀ a ∈ l, ∃ a', C a' = C a ∧ ∀ r, pe (ec a ++ r) = some (a', r)) : ∃ l', l'.map C = l.map C ∧ ∀ r, rdL pe ((enc l.length 2 ++ l.flatMap ec) ++ r) = some (l', r) := by
  obtain ⟨l', h1, h2⟩ := rdMany_enc C l.length l rfl hP
  refine ⟨l', h1, fun r => ?_⟩
  unfold rdL
  rw [List.append_assoc, rdN_enc hl]
  exact h2 r
theorem rdL_enc' {α : Type} {pe : List Nat → Option (α × List Nat)} {ec : α → List Nat} {l : List α} (hl : l.length < 65536) (hP : ∀ a ∈ l, ∀ r, pe (ec a ++ r) = some (a, r)) (r : List Nat) : rdL pe ((enc l.length 2 ++ l.flatMap ec) ++ r) = some (l, r) := by
  obtain ⟨l', h1, h2⟩ := rdL_enc (C := fun a : α => a) hl fun a ha => ⟨a, rfl, hP a ha⟩
  rw [List.map_id', List.map_id'] at h1
  rw [h2, h1]
theorem i8_back (d : Int) (h1 : -128 ≤ d) (h2 : d < 128) : IntKind.i8.wrap ((i8N d : Nat) : Int) = d := by simp [IntKind.wrap, IntKind.bits, IntKind.signed, i8N]; omega
theorem i8_to (a : Nat) (h : a < 256) : i8N (IntKind.i8.wrap (a : Int)) = a := by simp [IntKind.wrap, IntKind.bits, IntKind.signed, i8N]; omega
theorem i32_back (d : Int) (h : -2147483648 ≤ d ∧ d ≤ 2147483647) : IntKind.i32.wrap ((r32 d : Nat) : Int) = d := by simp [IntKind.wrap, IntKind.bits, IntKind.signed, r32]; omega
theorem i32_to (a : Nat) (h : a < 4294967296) : r32 (IntKind.i32.wrap (a : Int)) = a := by simp [IntKind.wrap, IntKind.bits, IntKind.signed, r32]; omega
theorem rdAc_enc {a : Act} (h : wfA a) (r : List Nat) : rdAc (encA a ++ r) = some (a, r) := by
  unfold rdAc encA
  rw [List.append_assoc, rdN_enc (i8N_lt a.d), Option.bind_some, List.append_assoc, rdN_enc (i8N_lt a.f), Option.bind_some, rdN_enc h.2.2]
  simp only [Option.map_some, i8_back _ h.1.1 h.1.2, i8_back _ h.2.1.1 h.2.1.2]
theorem rdAc_inv {rest : List Nat} {p : Act × List Nat} (h : Byt rest) (e : rdAc rest = some p) : rest = encA p.1 ++ p.2 := by
  obtain ⟨a, h1, e⟩ := bind_some' e
  obtain ⟨b, h2, e⟩ := bind_some' e
  obtain ⟨n, h3, rfl⟩ := map_some' e
  have b1 := rdN_byt h h1
  have b2 := rdN_byt b1 h2
  have l1 := rdN_lt h h1
  have l2 := rdN_lt b1 h2
  rw [rdN_inv h h1, rdN_inv b1 h2, rdN_inv b2 h3]
  simp only [encA, i8_to a.1 l1, i8_to b.1 l2, List.append_assoc]
theorem rdC_inv (r : List Nat) (p : List Act × List Nat) (h : Byt r) (e : rdL rdAc r = some p) : Byt p.2 ∧ r = encC p.1 ++ p.2 :=
  ⟨rdL_byt (fun _ _ => rdAc_byt) h e, rdL_inv (ec := encA) (fun r p hr he => ⟨rdAc_byt hr he, rdAc_inv hr he⟩) h e⟩
theorem rdLL_inv {r : List Nat} {p : List (List Act) × List Nat} (h : Byt r) (e : rdL (rdL rdAc) r = some p) : r = encL p.1 ++ p.2 := rdL_inv (ec := encC) rdC_inv h e
theorem rdC_enc {c : List Act} (h : wfC c) (hl : c.length < 65536) (r : List Nat) : rdL rdAc (encC c ++ r) = some (c, r) := rdL_enc' hl (fun a ha => rdAc_enc (h.2 a ha)) r
theorem rdLL_enc {l : List (List Act)} (h : wfL l) (hl : (encL l).length ≤ 8192) (r : List Nat) : rdL (rdL rdAc) (encL l ++ r) = some (l, r) := by
  have e : (encL l).length = 2 + (l.flatMap encC).length := by simp only [encL, List.length_append, enc_len]
  have h1 := flt_ge encC 1 (l := l) fun a _ => encC_pos a
  refine rdL_enc' (by omega) (fun c hc => rdC_enc (h.2 c hc) ?_) r
  have h2 := flt_mem encC hc
  have h3 := encC_len c
  omega
theorem encF_eq {w w' : Nat → Nat} {f : Nat} (h1 : w f = w' f) (h2 : w (11 + f) = w' (11 + f)) : encF w f = encF w' f := by unfold encF; rw [h1, h2]
theorem flatF_eq {w w' : Nat → Nat} : ∀ (j : Nat), (∀ f, f < j → w f = w' f ∧ w (11 + f) = w' (11 + f)) → (List.range j).flatMap (encF w) = (List.range j).flatMap (encF w')
  | 0, _ => rfl
  | j + 1, h => by
    rw [List.range_succ, List.flatMap_append, List.flatMap_append, flatF_eq j fun f hf => h f (by omega)]
    simp only [List.flatMap_cons, List.flatMap_nil, List.append_nil]
    rw [encF_eq (h j (by omega)).1 (h j (by omega)).2]
theorem bitsN_eq {w w' : Nat → Nat} : ∀ (j : Nat), (∀ f, f < j → w (11 + f) = w' (11 + f)) → bitsN w j = bitsN w' j
  | 0, _ => rfl
  | j + 1, h => by
    simp only [bitsN]
    rw [bitsN_eq j fun f hf => h f (by omega), h j (by omega)]
/-- A match's fields, read and written again. -/
theorem rdFs_inv {bits : Nat} {rest : List Nat} (h : Byt rest) : ∀ {j : Nat} {t : (Nat → Nat) × List Nat}, j ≤ 11 → rdFs bits rest j = some t →
    rest = (List.range j).flatMap (encF t.1) ++ t.2 ∧ bitsN t.1 j = bits % 2 ^ j ∧ (∀ f, j ≤ f → f < 11 → t.1 f = 0) ∧ ∀ f, j ≤ f → t.1 (11 + f) = 0
  | 0, t, _, e => by
    cases e
    refine ⟨rfl, ?_, fun _ _ _ => rfl, fun _ _ => rfl⟩
    simp [bitsN, Nat.mod_one]
  | j + 1, t, hj, e => by
    simp only [rdFs] at e
    obtain ⟨u, h1, e⟩ := bind_some' e
    obtain ⟨i1, i2, i3, i4⟩ := rdFs_inv h (by omega) h1
    have hm : bits % 2 ^ (j + 1) = bits % 2 ^ j + 2 ^ j * (bits / 2 ^ j % 2) := by rw [Nat.pow_succ, Nat.mod_mul]
    split at e
    · rename_i hb
      cases e
      have z : t.1 (11 + j) = 0 := i4 j (Nat.le_refl _)
      refine ⟨?_, ?_, fun f hf => i3 f (by omega), fun f hf => i4 f (by omega)⟩
      · rw [List.range_succ, List.flatMap_append]
        have : encF t.1 j = [] := by unfold encF; rw [if_pos z]
        simp only [List.flatMap_cons, List.flatMap_nil, this, List.append_nil]
        exact i1
      · simp only [bitsN]
        rw [if_pos z, i2, hm, hb]
        simp
    · rename_i hb
      obtain ⟨a, h2, e⟩ := bind_some' e
      obtain ⟨b, h3, e⟩ := bind_some' e
      split at e
      · cases e
      · rename_i hz
        cases e
        have hu := rdFs_byt h h1
        have wj : updN (updN u.1 j a.1) (11 + j) b.1 j = a.1 := by unfold updN; rw [if_neg (by omega), if_pos rfl]
        have wm : updN (updN u.1 j a.1) (11 + j) b.1 (11 + j) = b.1 := by unfold updN; rw [if_pos rfl]
        have wo : ∀ f, f ≠ j → f ≠ 11 + j → updN (updN u.1 j a.1) (11 + j) b.1 f = u.1 f := fun f g1 g2 => by unfold updN; rw [if_neg g2, if_neg g1]
        refine ⟨?_, ?_, fun f hf hf2 => ?_, fun f hf => ?_⟩
        · rw [List.range_succ, List.flatMap_append, ← flatF_eq (w := u.1) (w' := updN (updN u.1 j a.1) (11 + j) b.1) j fun f hf => ⟨(wo f (by omega) (by omega)).symm, (wo (11 + f) (by omega) (by omega)).symm⟩]
          have : encF (updN (updN u.1 j a.1) (11 + j) b.1) j = enc a.1 (sz j) ++ enc b.1 (sz j) := by unfold encF; rw [wj, wm, if_neg hz]
          simp only [List.flatMap_cons, List.flatMap_nil, this, List.append_nil]
          rw [i1, rdN_inv hu h2, rdN_inv (rdN_byt hu h2) h3]
          simp
        · simp only [bitsN]
          rw [if_neg (by rw [wm]; exact hz), ← bitsN_eq (w := u.1) j fun f hf => (wo (11 + f) (by omega) (by omega)).symm, i2, hm]
          have : bits / 2 ^ j % 2 = 1 := by omega
          rw [this, Nat.mul_one]
        · exact (wo f (by omega) (by omega)).trans (i3 f (by omega) hf2)
        · exact (wo (11 + f) (by omega) (by omega)).trans (i4 f (by omega))
theorem rdM_inv {rest : List Nat} {t : (Nat → Nat) × List Nat} (h : Byt rest) (e : rdM rest = some t) : rest = encM t.1 ++ t.2 := by
  obtain ⟨n, h1, e⟩ := bind_some' e
  split at e
  · rename_i hb
    obtain ⟨i1, i2, _, _⟩ := rdFs_inv (rdN_byt h h1) (by omega) e
    have : n.1 % 2 ^ 11 = n.1 := Nat.mod_eq_of_lt (by have := Nat.div_add_mod n.1 (2 ^ 11); rw [hb] at this; have := Nat.mod_lt n.1 (show 0 < 2 ^ 11 by omega); omega)
    rw [this] at i2
    unfold encM
    rw [i2, List.append_assoc, ← i1]
    exact rdN_inv h h1
  · cases e
theorem rdFs_enc {w : Nat → Nat} (hw : ∀ f, f < 11 → w f < 256 ^ sz f ∧ w (11 + f) < 256 ^ sz f) : ∀ (j : Nat), j ≤ 11 → ∃ w', (∀ f, f < 11 → w' f = (if j ≤ f then 0 else if w (11 + f) = 0 then 0 else w f) ∧ w' (11 + f) = (if j ≤ f then 0 else w (11 + f))) ∧ (∀ i, 22 ≤ i → w' i = 0) ∧ ∀ r, rdFs (bitsN w 11) ((List.range j).flatMap (encF w) ++ r) j = some (w', r)
  | 0, _ => ⟨fun _ => 0, fun f _ => ⟨by simp, by simp⟩, fun _ _ => rfl, fun _ => rfl⟩
  | j + 1, hj => by
    obtain ⟨u, i1, i3, i2⟩ := rdFs_enc hw j (by omega)
    have hb := bitsN_at w j 11 (by omega)
    obtain ⟨l1, l2⟩ := hw j (by omega)
    by_cases hz : w (11 + j) = 0
    · rw [if_pos hz] at hb
      refine ⟨u, fun f hf => ?_, i3, fun r => ?_⟩
      · obtain ⟨g1, g2⟩ := i1 f hf
        rcases Nat.lt_trichotomy f j with h | h | h
        · have n1 : ¬ j ≤ f := by omega
          have n2 : ¬ j + 1 ≤ f := by omega
          simp only [if_neg n1, if_neg n2] at g1 g2 ⊢
          exact ⟨g1, g2⟩
        · subst h
          have n2 : ¬ f + 1 ≤ f := by omega
          simp only [if_pos (Nat.le_refl _)] at g1 g2
          simp only [if_neg n2, if_pos hz, hz]
          exact ⟨g1, g2⟩
        · have n1 : j ≤ f := by omega
          have n2 : j + 1 ≤ f := by omega
          simp only [if_pos n1, if_pos n2] at g1 g2 ⊢
          exact ⟨g1, g2⟩
      · have e : encF w j = [] := by unfold encF; rw [if_pos hz]
        rw [List.range_succ, List.flatMap_append]
        simp only [List.flatMap_cons, List.flatMap_nil, e, List.append_nil]
        simp only [rdFs, i2, Option.bind_some, if_pos hb]
    · rw [if_neg hz] at hb
      refine ⟨updN (updN u j (w j)) (11 + j) (w (11 + j)), fun f hf => ?_, fun i hi => by unfold updN; rw [if_neg (by omega), if_neg (by omega)]; exact i3 i hi, fun r => ?_⟩
      · obtain ⟨g1, g2⟩ := i1 f hf
        unfold updN
        rcases Nat.lt_trichotomy f j with h | h | h
        · have n1 : ¬ j ≤ f := by omega
          have n2 : ¬ j + 1 ≤ f := by omega
          have n3 : ¬ f = 11 + j := by omega
          have n4 : ¬ f = j := by omega
          have n5 : ¬ 11 + f = 11 + j := by omega
          have n6 : ¬ 11 + f = j := by omega
          simp only [if_neg n1] at g1 g2
          simp only [if_neg n2, if_neg n3, if_neg n4, if_neg n5, if_neg n6]
          exact ⟨g1, g2⟩
        · subst h
          have n2 : ¬ f + 1 ≤ f := by omega
          have n3 : ¬ f = 11 + f := by omega
          simp only [if_neg n2, if_neg n3, if_neg hz, if_true]
          exact ⟨trivial, trivial⟩
        · have n1 : j ≤ f := by omega
          have n2 : j + 1 ≤ f := by omega
          have n3 : ¬ f = 11 + j := by omega
          have n4 : ¬ f = j := by omega
          have n5 : ¬ 11 + f = 11 + j := by omega
          have n6 : ¬ 11 + f = j := by omega
          simp only [if_pos n1] at g1 g2
          simp only [if_pos n2, if_neg n3, if_neg n4, if_neg n5, if_neg n6]
          exact ⟨g1, g2⟩
      · have e : encF w j = enc (w j) (sz j) ++ enc (w (11 + j)) (sz j) := by unfold encF; rw [if_neg hz]
        rw [List.range_succ, List.flatMap_append]
        simp only [List.flatMap_cons, List.flatMap_nil, e, List.append_nil, List.append_assoc]
        simp only [rdFs, i2, Option.bind_some, hb, rdN_enc l1, rdN_enc l2, if_neg hz]
        simp
theorem rdM_enc {w : Nat → Nat} (hw : ∀ f, f < 11 → w f < 256 ^ sz f ∧ w (11 + f) < 256 ^ sz f) (hz : ∀ f, f < 11 → w (11 + f) = 0 → w f = 0) (hc : ∀ i, 22 ≤ i → w i = 0) (r : List Nat) : rdM (encM w ++ r) = some (w, r) := by
  obtain ⟨w', h1, h3, h2⟩ := rdFs_enc hw 11 (Nat.le_refl _)
  have hb := bitsN_lt w 11
  have e : w' = w := by
    funext i
    rcases Nat.lt_or_ge i 11 with h | h
    · have g := (h1 i h).1
      rw [if_neg (by omega)] at g
      rw [g]
      split
      · rename_i hm; exact (hz i h hm).symm
      · rfl
    rcases Nat.lt_or_ge i 22 with h' | h'
    · have g := (h1 (i - 11) (by omega)).2
      rw [if_neg (by omega), show 11 + (i - 11) = i by omega] at g
      exact g
    · rw [h3 i h', hc i h']
  rw [e] at h2
  unfold rdM encM
  rw [List.append_assoc, rdN_enc (show bitsN w 11 < 256 ^ 2 by omega), Option.bind_some, if_pos (Nat.div_eq_of_lt hb)]
  exact h2 r
end Go.Proofs.Ytjjenpdjmcmgbaa
namespace Go.Proofs.Ytjjenpdjmcmgbaa
open Go Ab
set_option linter.unusedSimpArgs false
set_option linter.unusedVariables false
set_option maxRecDepth 20000
theorem in_wid {v m n : Nat} (hn : n ≤ 64) (hv : v < 18446744073709551616) (h1 : m / 2 ^ n = 0) (h2 : v &&& (18446744073709551615 - m) = 0) : v < 2 ^ n ∧ m < 2 ^ n ∧ (m = 0 → v = 0) := by
  have hp : 0 < 2 ^ n := Nat.two_pow_pos n
  have hm : m < 2 ^ n := by
    rcases Nat.lt_or_ge m (2 ^ n) with h | h
    · exact h
    · have := Nat.div_pos h hp; omega
  have h64 : 2 ^ n * 2 ^ (64 - n) = 18446744073709551616 := by rw [← Nat.pow_add, show n + (64 - n) = 64 by omega]
  refine ⟨?_, hm, fun h0 => ?_⟩
  · have e : (v &&& (18446744073709551615 - m)) >>> n = 0 := by rw [h2]; simp
    rw [Nat.shiftRight_and_distrib, Nat.shiftRight_eq_div_pow, Nat.shiftRight_eq_div_pow] at e
    have hc : (18446744073709551615 - m) / 2 ^ n = 2 ^ (64 - n) - 1 := by
      have hq : 0 < 2 ^ (64 - n) := Nat.two_pow_pos _
      rw [Nat.div_eq_iff hp]
      have : (2 ^ (64 - n) - 1) * 2 ^ n = 18446744073709551616 - 2 ^ n := by rw [Nat.sub_mul, Nat.mul_comm, h64, Nat.one_mul]
      have h2n : 2 ^ n ≤ 18446744073709551616 := by rw [← h64]; exact Nat.le_mul_of_pos_right _ hq
      omega
    rw [hc, Nat.and_two_pow_sub_one_eq_mod, Nat.mod_eq_of_lt ((Nat.div_lt_iff_lt_mul hp).2 (by rw [Nat.mul_comm, h64]; exact hv))] at e
    rcases Nat.lt_or_ge v (2 ^ n) with h | h
    · exact h
    · have := Nat.div_pos h hp; omega
  · rw [h0, show (18446744073709551615 - 0 : Nat) = 2 ^ 64 - 1 from rfl, Nat.and_two_pow_sub_one_eq_mod] at h2
    omega
theorem chk_in {w : Nat → Nat} (hw : U64 22 w) (h : chk w = true) : (∀ f, f < 11 → w f < 256 ^ sz f ∧ w (11 + f) < 256 ^ sz f) ∧ ∀ f, f < 11 → w (11 + f) = 0 → w f = 0 := by
  have key : ∀ f, f < 11 → w f < 2 ^ wid f ∧ w (11 + f) < 2 ^ wid f ∧ (w (11 + f) = 0 → w f = 0) := by
    intro f hf
    have hb := List.all_eq_true.1 h f (List.mem_range.2 hf)
    simp only [badAt, Bool.not_eq_true', Bool.or_eq_false_iff, Bool.not_eq_false', decide_eq_true_eq] at hb
    exact in_wid (Nat.le_trans (wid_le f) (by omega)) (hw f (by omega)) hb.1 hb.2
  have big : ∀ f, f < 11 → 2 ^ wid f ≤ 256 ^ sz f := fun f hf => by
    rw [show (256 : Nat) = 2 ^ 8 from rfl, ← Nat.pow_mul]
    exact Nat.pow_le_pow_right (by omega) (sz_ok hf).2.2
  refine ⟨fun f hf => ?_, fun f hf => (key f hf).2.2⟩
  obtain ⟨h1, h2, _⟩ := key f hf
  have := big f hf
  omega
/-- A rule whose match is told within its 22 numbers alone. -/
def canR (r : Ru) : Prop := ∀ i, 22 ≤ i → r.w i = 0
theorem rdR_enc {r : Ru} (hr : wfR r) (hf : fairR r = true) (hc : canR r) (hl : (encR r).length ≤ 8192) (t : List Nat) : rdR (encR r ++ t) = some (r, t) := by
  simp only [fairR, Bool.and_eq_true, decide_eq_true_eq] at hf
  obtain ⟨f1, f2, f3, _⟩ := hf
  obtain ⟨c1, c2⟩ := chk_in hr.2.1 f3
  have hl2 : (encL r.l).length ≤ 8192 := by simp only [encR, List.length_append, enc_len] at hl; omega
  unfold rdR encR
  rw [List.append_assoc, rdN_enc (show r32 r.rank < 256 ^ 4 by unfold r32; omega), Option.bind_some, List.append_assoc, rdN_enc hr.2.2.2, Option.bind_some, List.append_assoc, rdM_enc c1 c2 hc, Option.bind_some, rdLL_enc hr.2.2.1 hl2]
  simp only [Option.map_some, i32_back _ ⟨f1, f2⟩]
theorem rdR_inv {rest : List Nat} {p : Ru × List Nat} (h : Byt rest) (e : rdR rest = some p) : rest = encR p.1 ++ p.2 := by
  obtain ⟨a, h1, e⟩ := bind_some' e
  obtain ⟨b, h2, e⟩ := bind_some' e
  obtain ⟨w, h3, e⟩ := bind_some' e
  obtain ⟨t, h4, rfl⟩ := map_some' e
  have b1 := rdN_byt h h1
  have b2 := rdN_byt b1 h2
  have b3 := rdM_byt b2 h3
  have l1 := rdN_lt h h1
  rw [rdN_inv h h1, rdN_inv b1 h2, rdM_inv b2 h3, rdLL_inv b3 h4]
  simp only [encR, i32_to a.1 l1, List.append_assoc]
theorem rdH_enc {h : He} (hh : wfH h) (hf : fairR h.r = true) (hc : canR h.r) (hl : (encH h).length ≤ 8192) (t : List Nat) : rdH (encH h ++ t) = some (h, t) := by
  have hl2 : (encR h.r).length ≤ 8192 := by simp only [encH, List.length_append, enc_len] at hl; omega
  unfold rdH encH
  rw [List.append_assoc, rdR_enc hh.1 hf hc hl2, Option.bind_some, List.append_assoc, rdN_enc hh.2.1, Option.bind_some, rdN_enc hh.2.2]
  rfl
theorem rdH_inv {rest : List Nat} {p : He × List Nat} (h : Byt rest) (e : rdH rest = some p) : rest = encH p.1 ++ p.2 := by
  obtain ⟨r, h1, e⟩ := bind_some' e
  obtain ⟨a, h2, e⟩ := bind_some' e
  obtain ⟨b, h3, rfl⟩ := map_some' e
  have b1 := rdR_byt h h1
  rw [rdR_inv h h1, rdN_inv b1 h2, rdN_inv (rdN_byt b1 h2) h3]
  simp only [encH, List.append_assoc]
theorem rdHs_enc {l : List He} (hw : ∀ h ∈ l, wfH h) (hf : ∀ h ∈ l, fairR h.r = true) (hc : ∀ h ∈ l, canR h.r) (hl : (encHs l).length ≤ 8192) (t : List Nat) : rdHs (encHs l ++ t) = some (l, t) := by
  have e : (encHs l).length = 2 + (l.flatMap encH).length := by simp only [encHs, List.length_append, enc_len]
  have h1 := flt_ge encH 1 (l := l) fun a _ => encH_pos a
  refine rdL_enc' (by omega) (fun h hh => rdH_enc (hw h hh) (hf h hh) (hc h hh) ?_) t
  have h2 := flt_mem encH hh
  omega
theorem rdHs_inv {r : List Nat} {p : List He × List Nat} (h : Byt r) (e : rdHs r = some p) : r = encHs p.1 ++ p.2 := rdL_inv (ec := encH) (fun _ _ hr he => ⟨rdH_byt hr he, rdH_inv hr he⟩) h e
theorem rdP_enc {l : List Nat} (hw : ∀ p ∈ l, p < 65536) (hl : (encP l).length ≤ 8192) (t : List Nat) : rdP (encP l ++ t) = some (l, t) := by
  have e : (encP l).length = 2 + (l.flatMap fun x => enc x 2).length := by simp only [encP, List.length_append, enc_len]
  have h1 := flt_ge (fun x => enc x 2) 1 (l := l) fun a _ => enc_pos a 2 (by omega)
  exact rdL_enc' (by omega) (fun p hp => rdN_enc (hw p hp)) t
theorem rdP_inv {r : List Nat} {p : List Nat × List Nat} (h : Byt r) (e : rdP r = some p) : r = encP p.1 ++ p.2 := rdL_inv (ec := fun x => enc x 2) (fun _ _ hr he => ⟨rdN_byt hr he, rdN_inv hr he⟩) h e
theorem rdB_enc {l : List Nat} (hw : ∀ p ∈ l, p < 256) (hl : (encB l).length ≤ 8192) (t : List Nat) : rdB (encB l ++ t) = some (l, t) := by
  have e : (encB l).length = 2 + (l.flatMap fun x => enc x 1).length := by simp only [encB, List.length_append, enc_len]
  have h1 := flt_ge (fun x => enc x 1) 1 (l := l) fun a _ => enc_pos a 1 (by omega)
  exact rdL_enc' (by omega) (fun p hp => rdN_enc (by have := hw p hp; omega)) t
theorem rdB_inv {r : List Nat} {p : List Nat × List Nat} (h : Byt r) (e : rdB r = some p) : r = encB p.1 ++ p.2 := rdL_inv (ec := fun x => enc x 1) (fun _ _ hr he => ⟨rdN_byt hr he, rdN_inv hr he⟩) h e
theorem rdFl_enc (b : Bool) (t : List Nat) : rdFl (enc (b01 b) 1 ++ t) = some (b, t) := by
  unfold rdFl
  rw [rdN_enc (by cases b <;> decide)]
  cases b <;> rfl
theorem rdFl_inv {r : List Nat} {p : Bool × List Nat} (h : Byt r) (e : rdFl r = some p) : r = enc (b01 p.1) 1 ++ p.2 := by
  obtain ⟨a, h1, e⟩ := bind_some' e
  split at e
  · cases e
  · rename_i hn
    cases e
    show r = enc (b01 (decide (a.1 = 1))) 1 ++ a.2
    rw [rdN_inv h h1]
    congr 2
    rcases Nat.lt_or_ge a.1 1 with g | g
    · have : a.1 = 0 := by omega
      rw [this]; rfl
    · have : a.1 = 1 := by omega
      rw [this]; rfl
theorem body12 {x : Ms} (h : x.ty = 12) : body x = enc x.port 2 ++ enc (b01 x.up) 1 := by unfold body; rw [if_neg (by omega), if_neg (by omega), if_neg (by omega), if_neg (by omega), if_pos h]
theorem body13 {x : Ms} (h : x.ty = 13) : body x = enc x.code 2 := by unfold body; rw [if_neg (by omega), if_neg (by omega), if_neg (by omega), if_neg (by omega), if_neg (by omega), if_pos h]
theorem bodyN {x : Ms} (h4 : x.ty ≠ 4) (h5 : x.ty ≠ 5) (h6 : ¬ (x.ty = 6 ∨ x.ty = 7)) (h11 : x.ty ≠ 11) (h12 : x.ty ≠ 12) (h13 : x.ty ≠ 13) : body x = [] := by
  unfold body
  rw [if_neg h4, if_neg h5, if_neg h6, if_neg h11, if_neg h12, if_neg h13]
theorem rdBody_inv {t : Int} {i : Nat} {rest : List Nat} {p : Ms × List Nat} (h : Byt rest) (e : rdBody t i rest = some p) : rest = body p.1 ++ p.2 ∧ p.1.ty = t ∧ p.1.id = i := by
  unfold rdBody at e
  split at e
  · rename_i h4
    obtain ⟨a, h1, e⟩ := bind_some' e
    obtain ⟨b, h2, e⟩ := bind_some' e
    obtain ⟨d, h3, rfl⟩ := map_some' e
    have b1 := rdN_byt h h1
    refine ⟨?_, rfl, rfl⟩
    rw [body4 (show t = 4 from h4), rdN_inv h h1, rdP_inv b1 h2, rdP_inv (rdP_byt b1 h2) h3]
    simp only [List.append_assoc]
  rename_i h4
  split at e
  · rename_i h5
    obtain ⟨a, h1, e⟩ := bind_some' e
    obtain ⟨b, h2, rfl⟩ := map_some' e
    refine ⟨?_, rfl, rfl⟩
    rw [body5 (show t = 5 from h5), rdN_inv h h1, rdR_inv (rdN_byt h h1) h2]
    simp only [i8_to a.1 (rdN_lt h h1), List.append_assoc]
  rename_i h5
  split at e
  · rename_i h6
    obtain ⟨a, h1, e⟩ := bind_some' e
    obtain ⟨b, h2, rfl⟩ := map_some' e
    refine ⟨?_, rfl, rfl⟩
    rw [body6 (show t = 6 ∨ t = 7 from h6), rdN_inv h h1, rdB_inv (rdN_byt h h1) h2]
    simp only [List.append_assoc]
  rename_i h6
  split at e
  · rename_i h11
    obtain ⟨a, h1, e⟩ := bind_some' e
    obtain ⟨b, h2, rfl⟩ := map_some' e
    refine ⟨?_, rfl, rfl⟩
    rw [body11 (show t = 11 from h11), rdN_inv h h1, rdHs_inv (rdN_byt h h1) h2]
    simp only [List.append_assoc]
  rename_i h11
  split at e
  · rename_i h12
    obtain ⟨a, h1, e⟩ := bind_some' e
    obtain ⟨b, h2, rfl⟩ := map_some' e
    refine ⟨?_, rfl, rfl⟩
    rw [body12 (show t = 12 from h12), rdN_inv h h1, rdFl_inv (rdN_byt h h1) h2]
    simp only [List.append_assoc]
  rename_i h12
  split at e
  · rename_i h13
    obtain ⟨a, h1, rfl⟩ := map_some' e
    refine ⟨?_, rfl, rfl⟩
    rw [body13 (show t = 13 from h13), rdN_inv h h1]
  · rename_i h13
    cases e
    refine ⟨?_, rfl, rfl⟩
    rw [bodyN (show t ≠ 4 from h4) h5 h6 h11 h12 h13]
    rfl
/-- What is read is written as it was. -/
theorem msg_inv {b : List Nat} {x : Ms} (hb : Byt b) (h8 : 4 ≤ b.length) (e : rdMsg b = some x) : whole x = b ∧ chkM x = 0 := by
  unfold rdMsg at e
  split at e
  · rename_i hc
    obtain ⟨c1, c2, c3⟩ := hc
    obtain ⟨i, h1, e⟩ := bind_some' e
    obtain ⟨y, h2, e⟩ := bind_some' e
    split at e
    · rename_i hk
      cases e
      have hb4 := hb.drop 4
      obtain ⟨g1, g2, g3⟩ := rdBody_inv (rdN_byt hb4 h1) h2
      rw [hk.1, List.append_nil] at g1
      have hi := rdN_inv hb4 h1
      refine ⟨?_, hk.2⟩
      obtain ⟨b0, b1, b2, b3, r, rfl⟩ : ∃ b0 b1 b2 b3 r, b = b0 :: b1 :: b2 :: b3 :: r := by
        match b, h8 with
        | b0 :: b1 :: b2 :: b3 :: r, _ => exact ⟨b0, b1, b2, b3, r, rfl⟩
      have e0 : b0 = 1 := c2
      have e1 : y.1.ty = IntKind.i8.wrap (b1 : Int) := g2
      have ea : r.length + 4 = b2 * 256 + b3 := by simpa [allB] using c3
      have er : r = enc i.1 4 ++ i.2 := hi
      have l1 : b1 < 256 := hb.1 _ (by simp)
      have l2 : b2 < 256 := hb.1 _ (by simp)
      have l3 : b3 < 256 := hb.1 _ (by simp)
      have hl : (body y.1).length + 8 = b2 * 256 + b3 := by
        rw [← g1]
        have := congrArg List.length er
        rw [List.length_append, enc_len] at this
        omega
      rw [whole_cons, hl, e1, i8_to b1 l1, g3, ← g1, ← er, e0]
      have q1 : (b2 * 256 + b3) / 256 % 256 = b2 := by omega
      have q2 : (b2 * 256 + b3) % 256 = b3 := by omega
      rw [q1, q2]
    · cases e
  · cases e
end Go.Proofs.Ytjjenpdjmcmgbaa
