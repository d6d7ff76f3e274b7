/- Values without names, and names that are changed. No condition. -/
import Derived.Test.YtnhejkfbnjopjaaAbs8
namespace Go.Proofs.Ytnhejkfbnjopjaa.Ab
open Go
set_option linter.unusedSimpArgs false
set_option linter.unusedVariables false

mutual
/-- No name of a block of the call's own stands in it. -/
def nf : V → Bool
  | .ptr _ _ => false
  | .ep _ _ _ _ => false
  | .sl _ _ _ _ => false
  | .mp _ => false
  | .unk => false
  | .ip l => nfs l
  | .isl _ es => nfss es
  | .fn _ a b => nfs a && nfs b
  | .ifc _ v => nf v
  | .agg l => nfs l
  | .tup l => nfs l
  | .bool _ => true
  | .int _ _ => true
  | .str _ => true
  | .nilp => true
  | .nils => true
  | .nilm => true
  | .nilf => true
  | .nili => true
def nfs : List V → Bool
  | [] => true
  | v :: r => nf v && nfs r
def nfss : List (List V) → Bool
  | [] => true
  | v :: r => nfs v && nfss r
end

mutual
/-- Names changed. -/
def ren (τ : Nat → Nat) : V → V
  | .ptr n off => .ptr (τ n) off
  | .ep sz n i off => .ep sz (τ n) i off
  | .sl sz n off len => .sl sz (τ n) off len
  | .mp n => .mp (τ n)
  | .ip l => .ip l
  | .isl sz es => .isl sz es
  | .fn f a b => .fn f (rens τ a) (rens τ b)
  | .ifc t v => .ifc t (ren τ v)
  | .agg l => .agg (rens τ l)
  | .tup l => .tup (rens τ l)
  | .unk => .unk
  | .bool b => .bool b
  | .int k n => .int k n
  | .str s => .str s
  | .nilp => .nilp
  | .nils => .nils
  | .nilm => .nilm
  | .nilf => .nilf
  | .nili => .nili
def rens (τ : Nat → Nat) : List V → List V
  | [] => []
  | v :: r => ren τ v :: rens τ r
end

theorem rens_length (τ : Nat → Nat) : ∀ l, (rens τ l).length = l.length
  | [] => rfl
  | _ :: r => by simp [rens, rens_length τ r]
mutual
/-- Values without names stay as they are. -/
theorem ren_nf (τ : Nat → Nat) : ∀ v, nf v = true → ren τ v = v
  | .ptr _ _, h => by simp [nf] at h
  | .ep _ _ _ _, h => by simp [nf] at h
  | .sl _ _ _ _, h => by simp [nf] at h
  | .mp _, h => by simp [nf] at h
  | .unk, h => by simp [nf] at h
  | .ip _, _ => rfl
  | .isl _ _, _ => rfl
  | .fn _ a b, h => by simp only [nf, Bool.and_eq_true] at h; simp only [ren, rens_nf τ a h.1, rens_nf τ b h.2]
  | .ifc _ v, h => by simp only [nf] at h; simp only [ren, ren_nf τ v h]
  | .agg l, h => by simp only [nf] at h; simp only [ren, rens_nf τ l h]
  | .tup l, h => by simp only [nf] at h; simp only [ren, rens_nf τ l h]
  | .bool _, _ => rfl
  | .int _ _, _ => rfl
  | .str _, _ => rfl
  | .nilp, _ => rfl
  | .nils, _ => rfl
  | .nilm, _ => rfl
  | .nilf, _ => rfl
  | .nili, _ => rfl
theorem rens_nf (τ : Nat → Nat) : ∀ l, nfs l = true → rens τ l = l
  | [], _ => rfl
  | v :: r, h => by simp only [nfs, Bool.and_eq_true] at h; simp only [rens, ren_nf τ v h.1, rens_nf τ r h.2]
end

mutual
/-- The names that stand in it are let in. -/
def inD (D : Nat → Bool) : V → Bool
  | .ptr n _ => D n
  | .ep _ n _ _ => D n
  | .sl _ n _ _ => D n
  | .mp n => D n
  | .ip l => nfs l
  | .isl _ es => nfss es
  | .fn _ a b => inDs D a && inDs D b
  | .ifc _ v => inD D v
  | .agg l => inDs D l
  | .tup l => inDs D l
  | .unk => true
  | .bool _ => true
  | .int _ _ => true
  | .str _ => true
  | .nilp => true
  | .nils => true
  | .nilm => true
  | .nilf => true
  | .nili => true
def inDs (D : Nat → Bool) : List V → Bool
  | [] => true
  | v :: r => inD D v && inDs D r
end

section
variable {N N' : Nat} {ρ : Pl} {I : Nat → Prop} {w : World}
mutual
/-- A value without names stands for the same under any names. -/
theorem RV_nf {ρ' : Pl} : ∀ (v : V) (x : Value), nf v = true → RV N ρ I w v x → RV N' ρ' I w v x
  | .ptr _ _, _, h, _ => by simp [nf] at h
  | .ep _ _ _ _, _, h, _ => by simp [nf] at h
  | .sl _ _ _ _, _, h, _ => by simp [nf] at h
  | .mp _, _, h, _ => by simp [nf] at h
  | .unk, _, h, _ => by simp [nf] at h
  | .bool b, x, _, h => by simpa [RV] using h
  | .int k n, x, _, h => by simpa [RV] using h
  | .str s, x, _, h => by simpa [RV] using h
  | .nilp, x, _, h => by simpa [RV] using h
  | .nils, x, _, h => by simpa [RV] using h
  | .nilm, x, _, h => by simpa [RV] using h
  | .nilf, x, _, h => by simpa [RV] using h
  | .nili, x, _, h => by simpa [RV] using h
  | .ip l, x, h0, h => by
    simp only [nf] at h0
    simp only [RV] at h ⊢
    obtain ⟨b, o, c, ty, fr, h1, h2, h3, h4⟩ := h
    exact ⟨b, o, c, ty, fr, h1, h2, h3, Rc_nf l c o h0 h4⟩
  | .isl sz es, x, h0, h => by
    simp only [nf] at h0
    simp only [RV] at h ⊢
    obtain ⟨a, cap, h1, h2, h3⟩ := h
    refine ⟨a, cap, h1, h2, ?_⟩
    rcases h3 with rfl | ⟨b, o, c, ty, fr, h3, h4, h5, h6⟩
    · exact .inl rfl
    · exact .inr ⟨b, o, c, ty, fr, h3, h4, h5, Rcc_nf es c o sz h0 h6⟩
  | .fn f fi cp, x, h0, h => by
    simp only [nf, Bool.and_eq_true] at h0
    simp only [RV] at h ⊢
    obtain ⟨a, b, h1, h2, h3, h4, h5⟩ := h
    exact ⟨a, b, h1, h2, Rt_nf fi a 0 h0.1 h3, h4, Rt_nf cp b 0 h0.2 h5⟩
  | .ifc t v, x, h0, h => by
    simp only [nf] at h0
    simp only [RV] at h ⊢
    obtain ⟨y, h1, h2⟩ := h
    exact ⟨y, h1, RV_nf v y h0 h2⟩
  | .agg l, x, h0, h => by
    simp only [nf] at h0
    simp only [RV] at h ⊢
    obtain ⟨c, h1, h2, h3⟩ := h
    exact ⟨c, h1, h2, Rc_nf l c 0 h0 h3⟩
  | .tup l, x, h0, h => by
    simp only [nf] at h0
    simp only [RV] at h ⊢
    obtain ⟨c, h1, h2, h3⟩ := h
    exact ⟨c, h1, h2, Rt_nf l c 0 h0 h3⟩
theorem Rc_nf {ρ' : Pl} : ∀ (l : List V) (c : Array Value) (o : Nat), nfs l = true → Rc N ρ I w l c o → Rc N' ρ' I w l c o
  | [], _, _, _, _ => by simp [Rc]
  | v :: r, c, o, h0, h => by
    simp only [nfs, Bool.and_eq_true] at h0
    simp only [Rc] at h ⊢
    obtain ⟨⟨x, h1, h2, h3⟩, h4⟩ := h
    exact ⟨⟨x, h1, h2, RV_nf v x h0.1 h3⟩, Rc_nf r c (o + 1) h0.2 h4⟩
theorem Rt_nf {ρ' : Pl} : ∀ (l : List V) (c : Array Value) (o : Nat), nfs l = true → Rt N ρ I w l c o → Rt N' ρ' I w l c o
  | [], _, _, _, _ => by simp [Rt]
  | v :: r, c, o, h0, h => by
    simp only [nfs, Bool.and_eq_true] at h0
    simp only [Rt] at h ⊢
    obtain ⟨⟨x, h1, h3⟩, h4⟩ := h
    exact ⟨⟨x, h1, RV_nf v x h0.1 h3⟩, Rt_nf r c (o + 1) h0.2 h4⟩
theorem Rcc_nf {ρ' : Pl} : ∀ (l : List (List V)) (c : Array Value) (o sz : Nat), nfss l = true → Rcc N ρ I w l c o sz → Rcc N' ρ' I w l c o sz
  | [], _, _, _, _, _ => by simp [Rcc]
  | e :: r, c, o, sz, h0, h => by
    simp only [nfss, Bool.and_eq_true] at h0
    simp only [Rcc] at h ⊢
    exact ⟨⟨h.1.1, Rc_nf e c o h0.1 h.1.2⟩, Rcc_nf r c (o + sz) sz h0.2 h.2⟩
end
mutual
/-- Under other names. -/
theorem RV_sub {ρ' : Pl} {τ : Nat → Nat} {D : Nat → Bool} (hτ : ∀ n, D n = true → n < N → τ n < N' ∧ ρ' (τ n) = ρ n) : ∀ (v : V) (x : Value), inD D v = true → RV N ρ I w v x → RV N' ρ' I w (ren τ v) x
  | .unk, _, _, _ => by simp [ren, RV]
  | .bool b, x, _, h => by simpa [ren, RV] using h
  | .int k n, x, _, h => by simpa [ren, RV] using h
  | .str s, x, _, h => by simpa [ren, RV] using h
  | .nilp, x, _, h => by simpa [ren, RV] using h
  | .nils, x, _, h => by simpa [ren, RV] using h
  | .nilm, x, _, h => by simpa [ren, RV] using h
  | .nilf, x, _, h => by simpa [ren, RV] using h
  | .nili, x, _, h => by simpa [ren, RV] using h
  | .ptr n off, x, h0, h => by
    simp only [inD] at h0
    simp only [ren, RV] at h ⊢
    obtain ⟨k1, k2⟩ := hτ n h0 h.1
    exact ⟨k1, by rw [k2]; exact h.2⟩
  | .ep sz n i off, x, h0, h => by
    simp only [inD] at h0
    simp only [ren, RV] at h ⊢
    obtain ⟨k1, k2⟩ := hτ n h0 h.1
    exact ⟨k1, by rw [k2]; exact h.2⟩
  | .sl sz n off len, x, h0, h => by
    simp only [inD] at h0
    simp only [ren, RV] at h ⊢
    obtain ⟨k1, k2⟩ := hτ n h0 h.1
    exact ⟨k1, by rw [k2]; exact h.2⟩
  | .mp n, x, h0, h => by
    simp only [inD] at h0
    simp only [ren, RV] at h ⊢
    obtain ⟨k1, k2⟩ := hτ n h0 h.1
    exact ⟨k1, by rw [k2]; exact h.2⟩
  | .ip l, x, h0, h => by
    simp only [inD] at h0
    simp only [ren, RV] at h ⊢
    obtain ⟨b, o, c, ty, fr, h1, h2, h3, h4⟩ := h
    exact ⟨b, o, c, ty, fr, h1, h2, h3, Rc_nf l c o h0 h4⟩
  | .isl sz es, x, h0, h => by
    simp only [inD] at h0
    simp only [ren, RV] at h ⊢
    obtain ⟨a, cap, h1, h2, h3⟩ := h
    refine ⟨a, cap, h1, h2, ?_⟩
    rcases h3 with rfl | ⟨b, o, c, ty, fr, h3, h4, h5, h6⟩
    · exact .inl rfl
    · exact .inr ⟨b, o, c, ty, fr, h3, h4, h5, Rcc_nf es c o sz h0 h6⟩
  | .fn f fi cp, x, h0, h => by
    simp only [inD, Bool.and_eq_true] at h0
    simp only [ren, RV] at h ⊢
    obtain ⟨a, b, h1, h2, h3, h4, h5⟩ := h
    exact ⟨a, b, h1, by rw [rens_length]; exact h2, Rt_sub hτ fi a 0 h0.1 h3, by rw [rens_length]; exact h4, Rt_sub hτ cp b 0 h0.2 h5⟩
  | .ifc t v, x, h0, h => by
    simp only [inD] at h0
    simp only [ren, RV] at h ⊢
    obtain ⟨y, h1, h2⟩ := h
    exact ⟨y, h1, RV_sub hτ v y h0 h2⟩
  | .agg l, x, h0, h => by
    simp only [inD] at h0
    simp only [ren, RV] at h ⊢
    obtain ⟨c, h1, h2, h3⟩ := h
    exact ⟨c, h1, by rw [rens_length]; exact h2, Rc_sub hτ l c 0 h0 h3⟩
  | .tup l, x, h0, h => by
    simp only [inD] at h0
    simp only [ren, RV] at h ⊢
    obtain ⟨c, h1, h2, h3⟩ := h
    exact ⟨c, h1, by rw [rens_length]; exact h2, Rt_sub hτ l c 0 h0 h3⟩
theorem Rc_sub {ρ' : Pl} {τ : Nat → Nat} {D : Nat → Bool} (hτ : ∀ n, D n = true → n < N → τ n < N' ∧ ρ' (τ n) = ρ n) : ∀ (l : List V) (c : Array Value) (o : Nat), inDs D l = true → Rc N ρ I w l c o → Rc N' ρ' I w (rens τ l) c o
  | [], _, _, _, _ => by simp [rens, Rc]
  | v :: r, c, o, h0, h => by
    simp only [inDs, Bool.and_eq_true] at h0
    simp only [rens, Rc] at h ⊢
    obtain ⟨⟨x, h1, h2, h3⟩, h4⟩ := h
    exact ⟨⟨x, h1, h2, RV_sub hτ v x h0.1 h3⟩, Rc_sub hτ r c (o + 1) h0.2 h4⟩
theorem Rt_sub {ρ' : Pl} {τ : Nat → Nat} {D : Nat → Bool} (hτ : ∀ n, D n = true → n < N → τ n < N' ∧ ρ' (τ n) = ρ n) : ∀ (l : List V) (c : Array Value) (o : Nat), inDs D l = true → Rt N ρ I w l c o → Rt N' ρ' I w (rens τ l) c o
  | [], _, _, _, _ => by simp [rens, Rt]
  | v :: r, c, o, h0, h => by
    simp only [inDs, Bool.and_eq_true] at h0
    simp only [rens, Rt] at h ⊢
    obtain ⟨⟨x, h1, h3⟩, h4⟩ := h
    exact ⟨⟨x, h1, RV_sub hτ v x h0.1 h3⟩, Rt_sub hτ r c (o + 1) h0.2 h4⟩
end

def nfp : List (V × V) → Bool
  | [] => true
  | (k, v) :: r => nf k && (nf v && nfp r)

theorem Re_nf {ρ' : Pl} : ∀ (l : List (V × V)) (es : List MapEntry), nfp l = true → Re N ρ I w l es → Re N' ρ' I w l es
  | [], [], _, _ => by simp [Re]
  | [], _ :: _, _, h => by simp [Re] at h
  | _ :: _, [], _, h => by simp [Re] at h
  | (k, v) :: r, e :: es, h0, h => by
    simp only [nfp, Bool.and_eq_true] at h0
    simp only [Re] at h ⊢
    exact ⟨RV_nf _ _ h0.1 h.1, RV_nf _ _ h0.2.1 h.2.1, Re_nf r es h0.2.2 h.2.2⟩

def inDB (D : Nat → Bool) : B → Bool
  | .dead => true
  | .var _ l => inDs D l
  | .row _ _ es => nfss es
  | .map es => nfp es

def renB (τ : Nat → Nat) : B → B
  | .var ty l => .var ty (rens τ l)
  | b => b

theorem renB_live (τ : Nat → Nat) (b : B) : (renB τ b).live = b.live := by cases b <;> rfl

theorem holds_sub {ρ' : Pl} {τ : Nat → Nat} {D : Nat → Bool} (hτ : ∀ n, D n = true → n < N → τ n < N' ∧ ρ' (τ n) = ρ n) {p : Nat × Nat} {b : B} (hb : inDB D b = true) (h : holds N ρ I w p b) : holds N' ρ' I w p (renB τ b) := by
  cases b with
  | dead => trivial
  | var ty l => obtain ⟨h0, c, h1, h2, h3⟩ := h; exact ⟨h0, c, h1, by rw [rens_length]; exact h2, Rc_sub hτ l c 0 hb h3⟩
  | row ty sz es => obtain ⟨c, h1, h2, h3⟩ := h; exact ⟨c, h1, h2, Rcc_nf es c _ sz hb h3⟩
  | map es => obtain ⟨h0, c, k, h1, h2⟩ := h; exact ⟨h0, c, k, h1, Re_nf es _ hb h2⟩

end
end Go.Proofs.Ytnhejkfbnjopjaa.Ab
