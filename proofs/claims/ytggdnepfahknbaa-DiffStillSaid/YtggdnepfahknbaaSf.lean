/- What the sorts' merging comes to, told by places. No condition. -/
import Derived.Test.YtggdnepfahknbaaSc
namespace Go.Proofs.Ytggdnepfahknbaa
open Go Ab
set_option linter.unusedSimpArgs false
set_option linter.unusedVariables false

section
variable {α : Type} {lt : α → α → Bool}
/-- What a merge leaves: the two pieces merged, and all else as it was. -/
def Mgd (lt : α → α → Bool) (f : Nat → α) (a m b : Nat) (f' : Nat → α) : Prop := seg f' a b = mrg lt (seg f a m) (seg f m b) ∧ ∀ x, (x < a ∨ b ≤ x) → f' x = f x

theorem mgd_l {f : Nat → α} {a b : Nat} : Mgd lt f a a b f := ⟨by rw [seg_none f (Nat.le_refl a), mrg_nil_l], fun _ _ => rfl⟩
theorem mgd_r {f : Nat → α} {a b : Nat} : Mgd lt f a b b f := ⟨by rw [seg_none f (Nat.le_refl b), mrg_nil_r], fun _ _ => rfl⟩

/-- One element goes in among what stands behind it. -/
theorem mgd_in {f : Nat → α} {a b i : Nat} (h1 : a + 1 ≤ i) (h2 : i ≤ b) (l : ∀ h, a + 1 ≤ h → h < i → lt (f h) (f a) = true) (r : ∀ h, i ≤ h → h < b → lt (f h) (f a) = false) : Mgd lt f a (a + 1) b (rot f a (a + 1) i) := by
  refine ⟨?_, fun x hx => rot_out (by omega)⟩
  rw [seg_app _ (show a ≤ i by omega) h2, seg_rot (by omega) h1, seg_ext (a := i) (g := f) fun x hx _ => rot_out (.inr hx), seg_one, seg_app f h1 h2]
  have := mrg_split (lt := lt) [] [f a] (seg f (a + 1) i) (seg f i b) (fun _ h => by cases h) fun x hx y hy => by
    rw [List.mem_singleton.1 hx]
    obtain ⟨k, k1, k2, rfl⟩ := mem_seg.1 hy
    exact l k k1 k2
  rw [List.nil_append, mrg_nil_l] at this
  rw [this, mrg_before [f a] (seg f i b) fun x hx y hy => by
    rw [List.mem_singleton.1 hx]
    obtain ⟨k, k1, k2, rfl⟩ := mem_seg.1 hy
    exact r k k1 k2, List.append_assoc]
/-- One element goes in among what stands ahead of it. -/
theorem mgd_back {f : Nat → α} {a m i : Nat} (h1 : a ≤ i) (h2 : i ≤ m) (l : ∀ h, a ≤ h → h < i → lt (f m) (f h) = false) (r : ∀ h, i ≤ h → h < m → lt (f m) (f h) = true) : Mgd lt f a m (m + 1) (rot f i m (m + 1)) := by
  refine ⟨?_, fun x hx => rot_out (by omega)⟩
  rw [seg_app _ h1 (show i ≤ m + 1 by omega), seg_rot h2 (Nat.le_succ m), seg_ext (a := a) (g := f) fun x _ hx => rot_out (.inl hx), seg_one, seg_app f h1 h2]
  have := mrg_split (lt := lt) (seg f a i) (seg f i m) [f m] [] (fun _ _ _ h => by cases h) fun x hx y hy => by
    rw [List.mem_singleton.1 hy]
    obtain ⟨k, k1, k2, rfl⟩ := mem_seg.1 hx
    exact r k k1 k2
  rw [List.append_nil, mrg_nil_r, mrg_before (seg f a i) [f m] fun x hx y hy => by
    rw [List.mem_singleton.1 hy]
    obtain ⟨k, k1, k2, rfl⟩ := mem_seg.1 hx
    exact l k k1 k2] at this
  rw [this, List.append_assoc]

/-- The middle: where the two halves part. -/
structure Cut (lt : α → α → Bool) (f : Nat → α) (a m b mid s e : Nat) : Prop where
  as : a ≤ s
  sm : s ≤ m
  smid : s ≤ mid
  me : m ≤ e
  eb : e ≤ b
  em : e + s = mid + m
  one : ∀ x ∈ seg f a s, ∀ y ∈ seg f e b, lt y x = false
  two : ∀ x ∈ seg f s m, ∀ y ∈ seg f m e, lt y x = true

theorem cut_of (ho : Ord α lt) {f : Nat → α} {a m b mid s lo hi : Nat} (h1 : a < m) (h2 : m < b) (hmid : mid = (a + b) / 2) (hlo : (mid < m ∧ lo = mid + m - b ∧ hi = mid) ∨ (m ≤ mid ∧ lo = a ∧ hi = m))
    (s1 : srf lt f a m) (s2 : srf lt f m b) (l1 : lo ≤ s) (l2 : s ≤ hi) (c1 : ∀ c, lo ≤ c → c < s → lt (f (mid + m - 1 - c)) (f c) = false) (c2 : ∀ c, s ≤ c → c < hi → lt (f (mid + m - 1 - c)) (f c) = true) :
    Cut lt f a m b mid s (mid + m - s) := by
  refine ⟨by omega, by omega, by omega, by omega, by omega, by omega, fun x hx y hy => ?_, fun x hx y hy => ?_⟩
  · obtain ⟨i, i1, i2, rfl⟩ := mem_seg.1 hx
    obtain ⟨j, j1, j2, rfl⟩ := mem_seg.1 hy
    have hs : lo ≤ s - 1 := by omega
    have key := c1 (s - 1) hs (by omega)
    rw [show mid + m - 1 - (s - 1) = mid + m - s by omega] at key
    exact ho.ntr _ _ _ (ho.ntr _ _ _ (s2 (mid + m - s) j (by omega) j1 j2) key) (s1 i (s - 1) i1 (by omega) (by omega))
  · obtain ⟨i, i1, i2, rfl⟩ := mem_seg.1 hx
    obtain ⟨j, j1, j2, rfl⟩ := mem_seg.1 hy
    have key := c2 s (Nat.le_refl _) (by omega)
    cases hq : lt (f j) (f i) with
    | true => rfl
    | false =>
      have := ho.ntr _ _ _ (ho.ntr _ _ _ (s2 j (mid + m - 1 - s) j1 (by omega) (by omega)) hq) (s1 s i (by omega) i1 i2)
      rw [key] at this
      cases this

theorem mono_f (ho : Ord α lt) {f : Nat → α} {a m b p c c' : Nat} (s1 : srf lt f a m) (s2 : srf lt f m b) (h1 : a ≤ c') (h2 : c' ≤ c) (h3 : c < m) (h4 : m ≤ p - c) (h5 : p - c' < b) (h : lt (f (p - c)) (f c) = false) : lt (f (p - c')) (f c') = false :=
  ho.ntr _ _ _ (ho.ntr _ _ _ (s2 (p - c) (p - c') h4 (by omega) h5) h) (s1 c' c h1 h2 h3)
theorem mono_t (ho : Ord α lt) {f : Nat → α} {a m b p c c' : Nat} (s1 : srf lt f a m) (s2 : srf lt f m b) (h1 : a ≤ c) (h2 : c ≤ c') (h3 : c' < m) (h4 : m ≤ p - c') (h5 : p - c < b) (h : lt (f (p - c)) (f c) = true) : lt (f (p - c')) (f c') = true := by
  cases hq : lt (f (p - c')) (f c') with
  | true => rfl
  | false =>
    rw [ho.ntr _ _ _ (ho.ntr _ _ _ (s2 (p - c') (p - c) h4 (by omega) h5) hq) (s1 c c' h1 h2 h3)] at h
    cases h

/-- What is left behind the turn and the two lesser merges. -/
theorem cut_fin {f f1 f2 : Nat → α} {a m b mid s e : Nat} (hc : Cut lt f a m b mid s e) (h1 : Mgd lt (rot f s m e) a s mid f1) (h2 : Mgd lt f1 mid e b f2) (hmb : mid ≤ b) : Mgd lt f a m b f2 := by
  obtain ⟨p1, p2⟩ := h1
  obtain ⟨q1, q2⟩ := h2
  have c1 := hc.as; have c2 := hc.sm; have c3 := hc.smid; have c4 := hc.me; have c5 := hc.eb; have c6 := hc.em
  refine ⟨?_, fun x hx => ?_⟩
  · rw [seg_app f2 (show a ≤ mid by omega) hmb, q1, seg_ext (a := a) (g := f1) fun x _ hx => q2 x (.inl hx), p1]
    have r1 : seg (rot f s m e) a s = seg f a s := seg_ext fun x _ hx => rot_out (.inl hx)
    have r2 : seg (rot f s m e) s mid = seg f m e := by
      have := seg_rot1 (f := f) c2 c4
      rw [show s + (e - m) = mid by omega] at this
      exact this
    have r3 : seg f1 mid e = seg f s m := by
      rw [seg_ext (g := rot f s m e) fun x hx _ => p2 x (.inr hx)]
      have := seg_rot2 (f := f) c2 c4
      rw [show s + (e - m) = mid by omega] at this
      exact this
    have r4 : seg f1 e b = seg f e b := by
      rw [seg_ext (g := rot f s m e) fun x hx _ => p2 x (.inr (by omega))]
      exact seg_ext fun x hx _ => rot_out (.inr hx)
    rw [r1, r2, r3, r4, seg_app f c1 c2, seg_app f c4 c5, mrg_split _ _ _ _ hc.one hc.two]
  · rw [q2 x (by omega), p2 x (by omega), rot_out (by omega)]
theorem cut_turn {f : Nat → α} {a m b mid s e : Nat} (hc : Cut lt f a m b mid s e) (h : ¬ (s < m ∧ m < e)) : rot f s m e = f := by
  have c2 := hc.sm; have c4 := hc.me
  by_cases h1 : s = m
  · rw [h1]; exact rot_l
  · rw [show e = m by omega]; exact rot_r
theorem cut_s1 (ho : Ord α lt) {f : Nat → α} {a m b mid s e : Nat} (hc : Cut lt f a m b mid s e) (s1 : srf lt f a m) (s2 : srf lt f m b) : srf lt (rot f s m e) a s ∧ srf lt (rot f s m e) s mid := by
  have c2 := hc.sm; have c4 := hc.me; have c6 := hc.em; have c5 := hc.eb
  refine ⟨srf_ext (srf_sub s1 (Nat.le_refl _) c2) fun i _ hi => (rot_out (.inl hi)).symm, srf_seg ho ?_⟩
  have := seg_rot1 (f := f) c2 c4
  rw [show s + (e - m) = mid by omega] at this
  rw [this]
  exact srt_seg ho (srf_sub s2 (Nat.le_refl _) c5)
theorem cut_s2 (ho : Ord α lt) {f f1 : Nat → α} {a m b mid s e : Nat} (hc : Cut lt f a m b mid s e) (s1 : srf lt f a m) (s2 : srf lt f m b) (h1 : Mgd lt (rot f s m e) a s mid f1) : srf lt f1 mid e ∧ srf lt f1 e b := by
  have c1 := hc.as; have c2 := hc.sm; have c4 := hc.me; have c6 := hc.em; have c5 := hc.eb; have c3 := hc.smid
  obtain ⟨p1, p2⟩ := h1
  constructor
  · refine srf_seg ho ?_
    rw [seg_ext (g := rot f s m e) fun x hx _ => p2 x (.inr hx)]
    have := seg_rot2 (f := f) c2 c4
    rw [show s + (e - m) = mid by omega] at this
    rw [this]
    exact srt_seg ho (srf_sub s1 c1 (Nat.le_refl _))
  · exact srf_ext (srf_sub s2 c4 (Nat.le_refl _)) fun i hi _ => by rw [p2 i (.inr (by omega)), rot_out (.inr hi)]
theorem cut_skip1 {f : Nat → α} {a m b mid s e : Nat} (hc : Cut lt f a m b mid s e) (h : ¬ (a < s ∧ s < mid)) : Mgd lt (rot f s m e) a s mid (rot f s m e) := by
  have c1 := hc.as; have c3 := hc.smid
  by_cases h1 : a = s
  · rw [h1]; exact mgd_l
  · rw [show s = mid by omega]; exact mgd_r
theorem cut_skip2 {f f1 : Nat → α} {a m b mid s e : Nat} (hc : Cut lt f a m b mid s e) (h : ¬ (mid < e ∧ e < b)) : Mgd lt f1 mid e b f1 := by
  have c2 := hc.sm; have c4 := hc.me; have c6 := hc.em; have c5 := hc.eb
  by_cases h1 : mid = e
  · rw [h1]; exact mgd_l
  · rw [show e = b by omega]; exact mgd_r
end
end Go.Proofs.Ytggdnepfahknbaa
