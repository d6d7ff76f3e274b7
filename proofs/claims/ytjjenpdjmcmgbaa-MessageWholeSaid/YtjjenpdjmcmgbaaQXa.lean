/- Memory that a call leaves, told otherwise: a cell's row is frozen; a nil slice is told as an empty one. No condition. -/
import Derived.Test.YtjjenpdjmcmgbaaQZa
namespace Go.Proofs.Ytjjenpdjmcmgbaa
open Go Ab
set_option linter.unusedSimpArgs false
set_option linter.unusedVariables false
set_option maxRecDepth 20000
section
variable {ρ : Pl} {I : Nat → Prop} {m m2 : Mem} {w : World}
theorem recell (hr : Rep ρ I m w) {q ty o : Nat} {l : List V} {v' : V} (hq : m[q]? = some (.var ty l)) (ho : o < l.length)
    (hx : ∀ c : Array Value, w.heap[(ρ q).1]? = some (.cells c ty (0, 0)) → ∃ x, c[o]? = some x ∧ x.oneCell' = true ∧ RV m.length ρ I w v' x) :
    Rep ρ I (m.set q (.var ty (l.set o v'))) w ∧ Step ρ I m w ρ I (m.set q (.var ty (l.set o v'))) w := by
  refine hr.write ⟨_, hq, rfl⟩ _ rfl rfl rfl rfl (fun _ _ => rfl) (fun c ty h => ⟨c, h, rfl⟩) fun _ => ?_
  obtain ⟨h0, c, h1, h2, h3⟩ := hr.blk q _ hq
  refine ⟨h0, c, h1, by simpa using h2, Rc.mk fun i v hv => ?_⟩
  by_cases hi : o = i
  · subst hi
    rw [List.getElem?_set_self ho] at hv
    cases hv
    simpa using hx c h1
  · rw [List.getElem?_set_ne hi] at hv
    exact h3.get i v hv
theorem frcell (hr : Rep ρ I m w) {q ty o : Nat} {l : List V} {v v' v2 : V} (hq : m[q]? = some (.var ty l)) (ho : l[o]? = some v) (hf : frz m v = some (v', m2)) (hq2 : m2[q]? = some (.var ty l)) (hk : ∀ {N : Nat} {ρ : Pl} {I : Nat → Prop} {w : World} {x : Value}, RV N ρ I w v' x → RV N ρ I w v2 x) :
    ∃ I', Rep ρ I' (m2.set q (.var ty (l.set o v2))) w ∧ Step ρ I m w ρ I' (m2.set q (.var ty (l.set o v2))) w := by
  obtain ⟨h0, c, h1, h2, h3⟩ := hr.blk q _ hq
  obtain ⟨x, k1, k2, k3⟩ := h3.get o v ho
  rw [Nat.zero_add] at k1
  obtain ⟨I', r', s', v''⟩ := frz_sound hr k3 hf
  obtain ⟨r2, s2⟩ := recell r' hq2 (List.getElem?_eq_some_iff.1 ho).1 (v' := v2) fun c' hc' => by
    rw [h1] at hc'
    cases hc'
    exact ⟨x, k1, k2, hk v''⟩
  exact ⟨I', r2, s'.trans s2⟩
end
def toM : CR → Mem → CR
  | .ret v _, m => .ret v m
  | .pan v _, m => .pan v m
/-- What a call leaves, with one cell's row frozen. -/
theorem Snd_frzC {P : Program} {f : FuncId} {vs : List V} {m : Mem} {Q Q' : CR → Prop} (h : Snd P f vs m Q)
    (hq : ∀ r, Q r → Q' r ∨ ∃ q ty l o v v' v2 m2, r.mem[q]? = some (.var ty l) ∧ l[o]? = some v ∧ frz r.mem v = some (v', m2) ∧ m2[q]? = some (.var ty l) ∧ (v' = v2 ∨ (v' = .nils ∧ ∃ s, v2 = .isl s [])) ∧ Q' (toM r (m2.set q (.var ty (l.set o v2))))) : Snd P f vs m Q' := by
  intro ρ I w xs hr hl hrt
  refine (h ρ I w xs hr hl hrt).mono ?_
  rintro e w' ⟨r, h1, x, ρ', I', k0, k1, k2, k3⟩
  rcases hq r h1 with hq | ⟨q, ty, l, o, v, v', v2, m2, g1, g2, g3, g4, g5, g6⟩
  · exact ⟨r, hq, x, ρ', I', k0, k1, k2, k3⟩
  have hk : ∀ {N : Nat} {ρ : Pl} {I : Nat → Prop} {w : World} {x : Value}, RV N ρ I w v' x → RV N ρ I w v2 x := by
    intro N ρ I w x hx
    rcases g5 with rfl | ⟨rfl, s, rfl⟩
    · exact hx
    · simp only [RV] at hx ⊢
      exact ⟨none, 0, by simpa using hx, Nat.le_refl _, by simp⟩
  obtain ⟨I2, r2, s2⟩ := frcell k1 g1 g2 g3 g4 hk
  cases r with
  | ret u M => exact ⟨_, g6, x, ρ', I2, k0, r2, k2.trans s2, RV.keep s2.keeps _ _ k3⟩
  | pan u M => exact ⟨_, g6, x, ρ', I2, k0, r2, k2.trans s2, RV.keep s2.keeps _ _ k3⟩
end Go.Proofs.Ytjjenpdjmcmgbaa
