/- The evaluator's append and make, and that they answer as the machine does. No condition. -/
import Derived.Test.YtnhejkfbnjopjaaAbs7
namespace Go.Proofs.Ytnhejkfbnjopjaa.Ab
open Go
set_option linter.unusedSimpArgs false
set_option linter.unusedVariables false

section
variable {P : Program} {N : Nat} {ρ : Pl} {I : Nat → Prop} {w : World} {m : Mem}

def isSliceT (P : Program) (t : TypeId) : Bool := match P.underlying t with
  | some (.slice _) => true
  | _ => false

/-- 'append(s, x...)'. -/
def appendV (P : Program) (t u : TypeId) (s x : V) (m : Mem) : Option (V × Mem) :=
  match P.underlying t with
  | some (.slice e) => match zeroE P e with
    | some (_, sz, by_) => bif isSliceT P u then match contV m sz x with
      | some new => match s with
        | .nils => if new.length = 0 then some (.nils, m) else if new.length * by_ ≤ 140737488355328 ∧ (new.length : Int) ≤ 9223372036854775807 then some (.sl sz m.length 0 new.length, m ++ [.row e sz new]) else none
        | .sl sz' n off len => match m[n]? with
          | some (.row ty sz'' es) => bif Nat.beq sz sz' && (Nat.beq sz sz'' && (Nat.beq ty e && Nat.beq (off + len) es.length)) then
              if (len + new.length) * by_ ≤ 140737488355328 ∧ ((len + new.length : Nat) : Int) ≤ 9223372036854775807 then
                some (.sl sz m.length 0 (len + new.length), m.set n .dead ++ [.row e sz (es.drop off ++ new)]) else none
            else none
          | _ => none
        | _ => none
      | none => none
      else none
    | none => none
  | _ => none

theorem Rcc.append {a b : List (List V)} {c : Array Value} {o sz : Nat} (ha : Rcc N ρ I w a c o sz) (hb : Rcc N ρ I w b c (o + a.length * sz) sz) : Rcc N ρ I w (a ++ b) c o sz := Rcc.mk fun i e he => by
  by_cases h : i < a.length
  · rw [List.getElem?_append_left h] at he
    exact ha.get i e he
  · rw [List.getElem?_append_right (by omega)] at he
    obtain ⟨h1, h2⟩ := hb.get _ e he
    refine ⟨h1, ?_⟩
    rwa [Nat.add_assoc, ← Nat.add_mul, show a.length + (i - a.length) = i by omega] at h2

theorem Rcc.shift {a : List (List V)} {c d : Array Value} {o q sz : Nat} (ha : Rcc N ρ I w a c o sz) (h : ∀ j, j < a.length * sz → d[q + j]? = c[o + j]?) : Rcc N ρ I w a d q sz := Rcc.mk fun i e he => by
  obtain ⟨h1, h2⟩ := ha.get i e he
  have hi := (List.getElem?_eq_some_iff.1 he).1
  refine ⟨h1, Rc.mk fun j v hv => ?_⟩
  have hj := (List.getElem?_eq_some_iff.1 hv).1
  obtain ⟨x, k1, k2⟩ := h2.get j v hv
  refine ⟨x, ?_, k2⟩
  have := Nat.mul_le_mul_right sz (show i + 1 ≤ a.length from hi)
  rw [Nat.add_mul] at this
  rw [Nat.add_assoc, h _ (by omega), ← k1, Nat.add_assoc]

theorem ones_of_rcc {es : List (List V)} {news : List Value} {sz : Nat} (h : Rcc N ρ I w es news.toArray 0 sz) (hs : news.length = es.length * sz) : ∀ v ∈ news, v.oneCell' = true := by
  intro v hv
  obtain ⟨i, hi⟩ := List.getElem?_of_mem hv
  have hil := (List.getElem?_eq_some_iff.1 hi).1
  rcases Nat.eq_zero_or_pos sz with rfl | hsz
  · omega
  have hq : i / sz < es.length := by rw [Nat.div_lt_iff_lt_mul hsz]; omega
  obtain ⟨e1, e2⟩ := h.get (i / sz) _ (List.getElem?_eq_getElem hq)
  have hm : i % sz < es[i / sz].length := by rw [e1]; exact Nat.mod_lt _ hsz
  obtain ⟨x, k1, k2, _⟩ := e2.get (i % sz) _ (List.getElem?_eq_getElem hm)
  have hdm : 0 + i / sz * sz + i % sz = i := by rw [Nat.zero_add, Nat.mul_comm]; exact Nat.div_add_mod _ _
  rw [hdm, List.getElem?_toArray, hi] at k1
  cases k1
  exact k2

/-- What an append does where there is no room. -/
theorem run_append_new {t u e f : TypeId} {i : TypeInfo} {z : Value} (ht : P.underlying t = some (.slice e)) (hu : P.underlying u = some (.slice f)) (hi : P.info? e = some i) (hz : i.zero = some z)
    {base : Option Addr} {sLen sCap n : Nat} {x : Value} {olds news : List Value} (hl : (Builtin.lenOf x).run P w = .ok n w)
    (hn : (Builtin.firstCells i.size n x).run P w.drew = .ok news.toArray w.drew) (ho : (Builtin.firstCells i.size sLen (.slice base sLen sCap)).run P w.drew = .ok olds.toArray w.drew)
    (hg : sCap < sLen + n) (h63 : ((sLen + n : Nat) : Int) ≤ 9223372036854775807) (hb : (sLen + n) * i.bytes ≤ 140737488355328) (ty : TypeId) :
    (Builtin.append_ #[t, u] ty #[.slice base sLen sCap, x]).run P w =
      .ok (.slice (some ⟨w.heap.size, 0, none⟩) (sLen + n) (grownCap w (sLen + n) sCap e))
        (w.drew.alloc (.cells (olds.toArray ++ news.toArray ++ Builtin.zeroCells z.cells (grownCap w (sLen + n) sCap e - (sLen + n))) e)) := by
  have hn' : ¬ (sLen + n ≤ sCap) := by omega
  have h63' : ¬ (9223372036854775807 < ((sLen : Int) + (n : Int))) := by omega
  have hfit := growslice_fits hg hb
  have h48' : ¬ (281474976710656 < Builtin.nextslicecap (sLen + n) sCap * i.bytes) := by omega
  simp [Builtin.append_, run_underlying ht, run_underlying hu, sizeOf, typeInfo, zeroValue, hi, hz, hl, hn', h63', h48', Question.forced, hn, ho, newRow, grownCap]
  congr 2
  apply Array.ext'
  simp [List.append_assoc]

theorem run_append_in {t u e f : TypeId} {i : TypeInfo} (ht : P.underlying t = some (.slice e)) (hu : P.underlying u = some (.slice f)) (hi : P.info? e = some i)
    {a : Addr} {sLen sCap n : Nat} {x : Value} {news : List Value} {w' : World} (hl : (Builtin.lenOf x).run P w = .ok n w)
    (hn : (Builtin.firstCells i.size n x).run P w = .ok news.toArray w) (hs : (storeCells (a.add (sLen * i.size)) news).run P w = .ok () w')
    (hg : sLen + n ≤ sCap) (ty : TypeId) :
    (Builtin.append_ #[t, u] ty #[.slice (some a) sLen sCap, x]).run P w = .ok (.slice (some a) (sLen + n) sCap) w' := by
  simp [Builtin.append_, run_underlying ht, run_underlying hu, sizeOf, typeInfo, hi, hl, hg, hn, hs]

theorem run_append_none {t u e f : TypeId} {i : TypeInfo} (ht : P.underlying t = some (.slice e)) (hu : P.underlying u = some (.slice f)) (hi : P.info? e = some i)
    {x : Value} (hl : (Builtin.lenOf x).run P w = .ok 0 w)
    (hn : (Builtin.firstCells i.size 0 x).run P w = .ok #[] w) (ty : TypeId) :
    (Builtin.append_ #[t, u] ty #[.slice none 0 0, x]).run P w = .ok (.slice none 0 0) w := by
  simp [Builtin.append_, run_underlying ht, run_underlying hu, sizeOf, typeInfo, hi, hl, hn]

theorem newcells {olds news : List Value} {z : Array Value} {cap need : Nat} {a b : List (List V)} {sz : Nat} (ha : Rcc N ρ I w a olds.toArray 0 sz) (hb : Rcc N ρ I w b news.toArray 0 sz)
    (hal : olds.length = a.length * sz) (hbl : news.length = b.length * sz) (hz : z.size = sz) (hn : need = a.length + b.length) (hc : need ≤ cap) :
    Rcc N ρ I w (a ++ b) (olds.toArray ++ news.toArray ++ Builtin.zeroCells z (cap - need)) 0 sz ∧ (olds.toArray ++ news.toArray ++ Builtin.zeroCells z (cap - need)).size = cap * sz := by
  constructor
  · refine Rcc.append (Rcc.shift ha fun j hj => ?_) (Rcc.shift hb fun j hj => ?_)
    · rw [Array.getElem?_append_left (by simp; omega), Array.getElem?_append_left (by simp; omega)]
    · rw [Array.getElem?_append_left (by simp; omega), Array.getElem?_append_right (by simp; omega)]
      congr 1; simp; omega
  · rw [Array.size_append, Array.size_append, size_zeroCells, hz]
    simp only [List.size_toArray, hal, hbl, ← Nat.add_mul, hn]
    congr 1; omega

theorem appendV_sound (hr : Rep ρ I m w) {t u : TypeId} {s x v : V} {a b : Value} {m' : Mem} (hs : RV m.length ρ I w s a) (hx : RV m.length ρ I w x b) (h : appendV P t u s x m = some (v, m')) (ty : TypeId) :
    Came P ρ I m w (Builtin.append_ #[t, u] ty #[a, b]) v m' := by
  unfold appendV at h
  split at h
  · rename_i e hu
    split at h
    · rename_i zl sz by_ hz
      obtain ⟨i, zv, z1, z2, z3, z4, z5, _, _, z8⟩ := zeroE_sound hz m.length ρ I w
      cases hc : isSliceT P u with
      | false => rw [hc] at h; cases h
      | true =>
        rw [hc] at h
        simp only [cond_true] at h
        unfold isSliceT at hc
        split at hc
        · rename_i f hu2
          split at h
          · rename_i new hnew
            obtain ⟨news, hn⟩ := contV_sound (P := P) hr z5 hx hnew
            have hnr : Rep ρ I m w.drew ∧ Step ρ I m w ρ I m w.drew := hr.same (Same.drew w)
            split at h
            · simp only [RV] at hs
              subst hs
              split at h
              · rename_i h0
                cases h
                have hl := hn.len
                have hf := hn.first w (Same.refl w)
                have hns : news = [] := by have := hn.size; rw [h0] at this; simp at this; exact this
                rw [h0] at hl hf
                rw [hns] at hf
                exact ⟨_, w, ρ, I, run_append_none hu hu2 z1 hl (by rw [z3]; exact hf) ty, hr, Step.refl _ _ _ _, by simp [RV]⟩
              · rename_i h0
                split at h
                · rename_i hb
                  cases h
                  have hrun := run_append_new (P := P) (base := none) (sLen := 0) (sCap := 0) (olds := []) hu hu2 z1 z2 hn.len (by rw [z3]; exact hn.first _ (Same.drew w)) (by rfl) (by omega) (by simpa using hb.2) (by rw [z4]; simpa using hb.1) ty
                  have hcap := grownCap_ge w (0 + new.length) 0 e
                  obtain ⟨n1, n2⟩ := newcells (a := []) (b := new) (cap := grownCap w (0 + new.length) 0 e) (need := 0 + new.length) (olds := []) (by simp [Rcc]) (Rcc.keep hnr.2.keeps _ _ _ _ hn.rel) (by simp) hn.size z8 (by simp) hcap
                  simp only [List.nil_append] at n1
                  obtain ⟨k1, k2⟩ := hnr.1.alloc (.cells _ e) (.row e sz new) (fun hk => ⟨_, heap_alloc_new w.drew _, by rw [n2]; simp only [Nat.zero_add] at hcap ⊢; exact Nat.mul_le_mul_right _ hcap, Rcc.keep hk _ _ _ _ n1⟩)
                  refine ⟨_, _, _, _, hrun, k1, hnr.2.trans k2, ?_⟩
                  simp only [RV]
                  refine ⟨by simp, 0, grownCap w (0 + new.length) 0 e, by rw [Pl.put_self, Nat.zero_add]; rfl, by omega, .inr (by rw [Pl.put_self]; simp), _, e, by rw [Pl.put_self]; exact heap_alloc_new w.drew _, .inr ?_⟩
                  rw [n2]; simp
                · cases h
            · rename_i sz' n off len
              split at h
              · rename_i _ ty' sz'' es hm
                cases hc2 : Nat.beq sz sz' && (Nat.beq sz sz'' && (Nat.beq ty' e && Nat.beq (off + len) es.length)) with
                | false => rw [hc2] at h; cases h
                | true =>
                  rw [hc2] at h
                  simp only [cond_true] at h
                  simp only [Bool.and_eq_true, Nat.beq_eq] at hc2
                  obtain ⟨rfl, rfl, rfl, hfull⟩ := hc2
                  split at h
                  · rename_i hb
                    cases h
                    have hsv := hs
                    simp only [RV] at hs
                    obtain ⟨q1, o, cap, rfl, q2, q3, c, ty', q4, q5⟩ := hs
                    obtain ⟨c1, g1, g2, g3⟩ := hr.blk _ _ hm
                    rw [q4] at g1
                    cases g1
                    have hlv := live_of hm rfl
                    have hbytes := hb.1
                    have h63 := hb.2
                    by_cases hroom : len + new.length ≤ cap
                    · by_cases hcap0 : cap = 0
                      · have hl0 : len = 0 := by omega
                        have hn0 : new.length = 0 := by omega
                        have hnew0 : new = [] := List.eq_nil_of_length_eq_zero hn0
                        subst hnew0
                        have hns : news = [] := by have := hn.size; simpa using this
                        subst hns
                        have hrun := run_append_in (P := P) (a := ⟨(ρ n).1, o, none⟩) (sLen := len) (sCap := cap) hu hu2 z1 hn.len (by rw [z3]; exact hn.first w (Same.refl w)) (w' := w) (by rfl) hroom ty
                        have hdrop : es.drop off ++ [] = [] := by simp; omega
                        obtain ⟨k1, k2⟩ := hr.rename hlv ((ρ n).1, 0) rfl (.row ty' sz (es.drop off ++ [])) (fun hk => ⟨c, q4, by rw [hdrop]; simp, by rw [hdrop]; simp [Rcc]⟩)
                        refine ⟨_, w, _, I, hrun, k1, k2, ?_⟩
                        simp only [RV]
                        exact ⟨by simp, o, cap, by rw [Pl.put_self], hroom, .inl hcap0, c, ty', by rw [Pl.put_self]; exact q4, .inl hcap0⟩
                      · have ho : o = (ρ n).2 + off * sz := by rcases q3 with q3 | q3 <;> first | omega | exact q3
                        have hcs : o + cap * sz ≤ c.size := by rcases q5 with q5 | q5 <;> first | omega | exact q5
                        have hmul : len * sz + new.length * sz ≤ cap * sz := by rw [← Nat.add_mul]; exact Nat.mul_le_mul_right _ hroom
                        have hend : (ρ n).2 + es.length * sz = o + len * sz := by rw [ho, ← hfull, Nat.add_mul]; omega
                        have hst : (storeCells (Addr.add ⟨(ρ n).1, o, none⟩ (len * i.size)) news).run P w = .ok () (w.setRow (ρ n).1 (splice c.toList (o + len * sz) news).toArray) := by
                          rw [Addr.add_lit, z3]
                          exact run_storeCells_splice q4 news (by rw [hn.size]; omega) (ones_of_rcc hn.rel hn.size)
                        have hs2 : (splice c.toList (o + len * sz) news).toArray.size = c.size := by
                          have := hn.size
                          simp [splice]; omega
                        obtain ⟨f1, f2, f3, f4⟩ := setRow_facts q4 hs2
                        obtain ⟨k1, k2⟩ := hr.write (w' := w.setRow (ρ n).1 (splice c.toList (o + len * sz) news).toArray) hlv (.row ty' sz (es ++ new)) rfl rfl rfl f1 f2 f4 (fun hk => by
                          refine ⟨_, f3, by rw [hs2, List.length_append, Nat.add_mul]; omega, Rcc.append (Rcc.mk fun j u hu => ?_) (Rcc.shift (Rcc.keep hk _ _ _ _ hn.rel) fun j hj => ?_)⟩
                          · obtain ⟨u1, u2⟩ := (Rcc.keep hk _ _ _ _ g3).get j u hu
                            have hj := (List.getElem?_eq_some_iff.1 hu).1
                            have := Nat.mul_le_mul_right sz (show j + 1 ≤ es.length from hj)
                            rw [Nat.add_mul] at this
                            exact ⟨u1, Rc.splice_out u2 (by rw [hn.size]; omega) (.inl (by omega))⟩
                          · rw [hend, List.getElem?_toArray, splice_get (by rw [hn.size]; simp; omega), if_neg (by omega), if_pos (by rw [hn.size]; omega)]
                            simp)
                        have hm1 : (m.set n (.row ty' sz (es ++ new)))[n]? = some (.row ty' sz (es ++ new)) := List.getElem?_set_self q1
                        obtain ⟨l1, l2⟩ := k1.rename (live_of hm1 rfl) ((ρ n).1, o) rfl (.row ty' sz (es.drop off ++ new)) (fun hk => by
                          obtain ⟨c3, r1, r2, r3⟩ := k1.blk _ _ hm1
                          refine ⟨c3, r1, ?_, ?_⟩
                          · rw [List.length_append, List.length_drop, Nat.add_mul]
                            rw [List.length_append, Nat.add_mul] at r2
                            have : (es.length - off) * sz = len * sz := by congr 1; omega
                            show o + _ ≤ _
                            omega
                          · refine Rcc.mk fun j u hu => ?_
                            have e0 : es.drop off ++ new = (es ++ new).drop off := by rw [List.drop_append_of_le_length (by omega)]
                            rw [e0, List.getElem?_drop] at hu
                            obtain ⟨u1, u2⟩ := (Rcc.keep hk _ _ _ _ r3).get _ u hu
                            refine ⟨u1, ?_⟩
                            rw [Nat.add_mul, ← Nat.add_assoc, ← ho] at u2
                            exact u2)
                        have hrun := run_append_in (P := P) (a := ⟨(ρ n).1, o, none⟩) (sLen := len) (sCap := cap) hu hu2 z1 hn.len (by rw [z3]; exact hn.first w (Same.refl w)) hst hroom ty
                        rw [List.set_set, List.length_set] at l1 l2
                        refine ⟨_, _, _, I, hrun, l1, k2.trans l2, ?_⟩
                        simp only [RV]
                        refine ⟨by simp, o, cap, by rw [Pl.put_self], hroom, .inr (by rw [Pl.put_self]; simp), _, ty', by rw [Pl.put_self]; exact f3, .inr (by rw [hs2]; exact hcs)⟩
                    · have hcontS : contV m sz (.sl sz n off len) = some (es.drop off) := by
                        simp only [contV, hm]
                        have e1 : Nat.beq sz sz = true := by simp
                        have e2 : Nat.ble (off + len) es.length = true := by rw [Nat.ble_eq]; omega
                        rw [e1, e2]
                        simp only [Bool.and_self, cond_true, Option.some.injEq]
                        exact List.take_of_length_le (by simp; omega)
                      obtain ⟨olds, hold⟩ := contV_sound (P := P) hr z5 hsv hcontS
                      have hlen : (es.drop off).length = len := by simp; omega
                      have hfo := hold.first _ (Same.drew w)
                      rw [hlen] at hfo
                      have hrun := run_append_new (P := P) (base := some ⟨(ρ n).1, o, none⟩) (sLen := len) (sCap := cap) hu hu2 z1 z2 hn.len (by rw [z3]; exact hn.first _ (Same.drew w)) (by rw [z3]; exact hfo) (by omega) h63 (by rw [z4]; exact hbytes) ty
                      have hcap := grownCap_ge w (len + new.length) cap ty'
                      obtain ⟨p1, p2⟩ := hnr.1.kill n
                      have hkeep := (hnr.2.trans p2).keeps
                      rw [List.length_set] at hkeep
                      obtain ⟨n1, n2⟩ := newcells (cap := grownCap w (len + new.length) cap ty') (Rcc.keep hkeep _ _ _ _ hold.rel) (Rcc.keep hkeep _ _ _ _ hn.rel) hold.size hn.size z8 (by rw [hlen]) hcap
                      obtain ⟨k1, k2⟩ := p1.alloc (.cells _ ty') (.row ty' sz (es.drop off ++ new)) (fun hk => ⟨_, heap_alloc_new w.drew _, by
                        rw [n2, List.length_append, hlen]
                        simp only [Nat.zero_add]
                        exact Nat.mul_le_mul_right _ hcap, by
                        rw [List.length_set] at hk ⊢
                        exact Rcc.keep hk _ _ _ _ n1⟩)
                      rw [List.length_set] at k1 k2
                      refine ⟨_, _, _, _, hrun, k1, (hnr.2.trans p2).trans k2, ?_⟩
                      simp only [RV]
                      refine ⟨by simp, 0, grownCap w (len + new.length) cap ty', by rw [Pl.put_self]; rfl, hcap, .inr (by rw [Pl.put_self]; simp), _, ty', by rw [Pl.put_self]; exact heap_alloc_new w.drew _, .inr ?_⟩
                      rw [n2]; simp
                  · cases h
              · cases h
            · cases h
          · cases h
        · cases hc
    · cases h
  · cases h
end
end Go.Proofs.Ytnhejkfbnjopjaa.Ab
