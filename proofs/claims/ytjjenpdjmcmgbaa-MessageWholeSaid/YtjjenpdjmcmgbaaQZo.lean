/- Numbers and lists put behind bytes, by the reference. No condition. -/
import Derived.Test.YtjjenpdjmcmgbaaQZn
namespace Go.Proofs.Ytjjenpdjmcmgbaa
open Go Ab
set_option linter.unusedSimpArgs false
set_option linter.unusedVariables false
set_option maxRecDepth 20000
/-- The bytes' row stands there. -/
def Bf (m : Mem) (k : Nat) (l : List Nat) : Prop := l ≠ [] → m[k]? = some (rowB l)
/-- All but the bytes' row stays. -/
def Ke (k : Nat) (l : List Nat) (m m' : Mem) : Prop := m.length ≤ m'.length ∧ ∀ n b, (l ≠ [] → n ≠ k) → m[n]? = some b → m'[n]? = some b
def Fr' (m : Mem) (k : Nat) (l : List Nat) (k' : Nat) (l' : List Nat) : Prop := m.length ≤ k' ∨ (k' = k ∧ l' = l)
theorem Ke.refl (k : Nat) (l : List Nat) (m : Mem) : Ke k l m m := ⟨Nat.le_refl _, fun _ _ _ h => h⟩
theorem Ke.trans {k k' : Nat} {l l' : List Nat} {m m' m'' : Mem} (h : Ke k l m m') (hk : Fr' m k l k' l') (g : Ke k' l' m' m'') : Ke k l m m'' := by
  refine ⟨Nat.le_trans h.1 g.1, fun n b hn hm => g.2 n b (fun hl e => ?_) (h.2 n b hn hm)⟩
  have hlt := (List.getElem?_eq_some_iff.1 hm).1
  rcases hk with hk | ⟨rfl, rfl⟩
  · omega
  · exact hn hl e
theorem Fr'.trans {m m' : Mem} {k k' k'' : Nat} {l l' l'' : List Nat} (hl : m.length ≤ m'.length) (h : Fr' m k l k' l') (g : Fr' m' k' l' k'' l'') : Fr' m k l k'' l'' := by
  rcases g with g | ⟨rfl, rfl⟩
  · exact .inl (by omega)
  · exact h
theorem Ke.app (k : Nat) (l : List Nat) (m ex : Mem) : Ke k l m (m ++ ex) := ⟨by simp, fun n b _ hm => by rw [List.getElem?_append_left (List.getElem?_eq_some_iff.1 hm).1]; exact hm⟩
theorem Bf.app {m : Mem} {k : Nat} {l : List Nat} (h : Bf m k l) (ex : Mem) : Bf (m ++ ex) k l := fun hl => by rw [List.getElem?_append_left (List.getElem?_eq_some_iff.1 (h hl)).1]; exact h hl
end Go.Proofs.Ytjjenpdjmcmgbaa
