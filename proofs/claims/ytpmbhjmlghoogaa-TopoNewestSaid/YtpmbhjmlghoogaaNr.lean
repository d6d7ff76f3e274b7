/- What is built is the same by both. No condition. -/
import Derived.Test.YtpmbhjmlghoogaaNq
import Derived.Test.YtpmbhjmlghoogaaUk
namespace Go.Proofs.Ytpmbhjmlghoogaa
open Go Ab
set_option linter.unusedSimpArgs false
set_option linter.unusedVariables false
set_option maxRecDepth 20000

theorem put_num : ∀ (n : Nat) (l : List Nat), l.length = n → (∀ b ∈ l, b < 256) → putB (num l) n n = l := by
  intro n
  induction n with
  | zero =>
    intro l hl _
    have : l = [] := List.eq_nil_of_length_eq_zero hl
    subst this
    simp [putB]
  | succ n ih =>
    intro l hl hb
    have e : l = l.take n ++ [l[n]] := by
      have := List.take_append_drop n l
      conv => lhs; rw [← this]
      congr 1
      rw [List.drop_eq_getElem_cons (by omega), List.drop_of_length_le (by omega)]
    have hlast := hb l[n] (List.getElem_mem _)
    have hi := ih (l.take n) (by simp; omega) (fun b h => hb b (List.mem_of_mem_take h))
    have hn : num l = num (l.take n) * 256 + l[n] := by
      conv => lhs; rw [e]
      exact num_snoc _ _
    rw [putB_succ, hn]
    have e1 : (num (l.take n) * 256 + l[n]) / 256 = num (l.take n) := by omega
    have e2 : (num (l.take n) * 256 + l[n]) % 256 = l[n] := by omega
    rw [e1, e2, hi]
    exact e.symm

theorem two (a b : Nat) (h : b < 65536) : putB (a * 65536 + b) 4 4 = putB a 2 2 ++ putB b 2 2 := putB_cat a b 2 2 (by simpa using h)
theorem arp_eq (h : Hd) (b0 : Nat) (hb : b0 < 256) : arpB h b0 = arpR h b0 := by
  unfold arpB arpR
  congr 1
  simp only [putB, List.range, List.range.loop, List.map_cons, List.map_nil]
  simp only [List.cons.injEq, and_true]
  refine ⟨?_, ?_, ?_, ?_, ?_, ?_, ?_, ?_⟩ <;> omega
theorem ports_eq (h : Hd) (n : Nat) (h8 : h 8 < 65536) : portsB h n = portsR h n := by
  unfold portsB portsR
  have e1 := two (h 7) (h 8) h8
  have e2 := two (8 + n) 0 (by omega)
  have e3 : putB 20496 2 2 = [80, 16] := by decide
  cases decide (h 6 = 6) <;> cases decide (h 6 = 17) <;> simp only [cond_true, cond_false]
  · rw [show h 7 * 2 ^ 16 + h 8 = h 7 * 65536 + h 8 by omega, show (8 + n) * 2 ^ 16 = (8 + n) * 65536 + 0 by omega, e1, e2]
    simp only [List.append_assoc]
  · rw [show h 7 * 2 ^ 16 + h 8 = h 7 * 65536 + h 8 by omega, e1, e3]
  · rw [show h 7 * 2 ^ 16 + h 8 = h 7 * 65536 + h 8 by omega, e1, e3]
theorem head_eq (h : Hd) (n : Nat) (h5 : h 5 < 4294967296) (h6 : h 6 < 256) : headB h (20 + n) = hdR h n := by
  unfold headB hdR
  have e1 : putB (1157627904 + (20 + n) % 65536) 4 4 = [69, 0] ++ putB (20 + n) 2 2 := by
    have := two 17664 ((20 + n) % 65536) (by omega)
    rw [show 1157627904 + (20 + n) % 65536 = 17664 * 65536 + (20 + n) % 65536 by omega, this]
    have e := putB_mod (20 + n) 2 2
    rw [show (256 ^ 2 : Nat) = 65536 by decide] at e
    rw [e]
    rfl
  have e2 : putB 0 4 4 = [0, 0, 0, 0] := by decide
  have e3 : putB (1073741824 + h 6 * 2 ^ 16) 4 4 = [64, h 6 % 256, 0, 0] := by
    simp only [putB, List.range, List.range.loop, List.map_cons, List.map_nil, List.cons.injEq, and_true]
    refine ⟨?_, ?_, ?_, ?_⟩ <;> omega
  have e4 : putB (h 4 * 2 ^ 32 + h 5) 8 8 = putB (h 4) 4 4 ++ putB (h 5) 4 4 := by
    have := putB_cat (h 4) (h 5) 4 4 (by simpa using h5)
    rw [show (2 ^ 32 : Nat) = 256 ^ 4 by decide]
    exact this
  rw [e1, e2, e3, e4]
  simp
theorem inet_eq (h : Hd) (b : List Nat) (h5 : h 5 < 4294967296) (h6 : h 6 < 256) (h8 : h 8 < 65536) : inetB h b = inetR h b := by
  unfold inetB inetR headR
  rw [ports_eq h b.length h8, Nat.add_assoc, head_eq h _ h5 h6]
theorem frm_eq {h : Hd} {b : List Nat} (ok : okH h = true) (hb : ∀ x ∈ b, x < 256) : frmC h b = frmR h b := by
  have f := ok_fit ok
  have f3 : h 3 < 4096 := f 3 (by omega)
  have f5 : h 5 < 4294967296 := f 5 (by omega)
  have f6 : h 6 < 256 := f 6 (by omega)
  have f8 : h 8 < 65536 := f 8 (by omega)
  have hb0 : b.getD 0 0 < 256 := by
    cases b with
    | nil => simp
    | cons a r => exact hb a (by simp)
  unfold frmC frmR
  have e := two 33024 (h 3) (by omega)
  rw [show 33024 * 65536 + h 3 = 2164260864 + h 3 by omega] at e
  rw [e, arp_eq h _ hb0, inet_eq h b f5 f6 f8]
theorem headR_lt (h : Hd) (n : Nat) : ∀ x ∈ headR h n, x < 256 := by
  intro x hx
  unfold headR setS at hx
  have hs := sumR_lt (hdR h n)
  rcases List.mem_or_eq_of_mem_set hx with hx | hx
  · rcases List.mem_or_eq_of_mem_set hx with hx | hx
    · exact hdR_lt h n x hx
    · omega
  · omega
theorem portsR_lt (h : Hd) (n : Nat) : ∀ x ∈ portsR h n, x < 256 := by
  intro x hx
  unfold portsR at hx
  cases h1 : decide (h 6 = 6) <;> cases h2 : decide (h 6 = 17) <;> rw [h1] at hx <;> simp only [cond_true, cond_false, h2, List.mem_append, List.not_mem_nil] at hx
  · rcases hx with ((hx | hx) | hx) | hx <;> exact putB_lt _ _ _ x hx
  · rcases hx with (((hx | hx) | hx) | hx) | hx
    · exact putB_lt _ _ _ x hx
    · exact putB_lt _ _ _ x hx
    · exact putB_lt _ _ _ x hx
    · simp at hx; omega
    · exact putB_lt _ _ _ x hx
  · rcases hx with (((hx | hx) | hx) | hx) | hx
    · exact putB_lt _ _ _ x hx
    · exact putB_lt _ _ _ x hx
    · exact putB_lt _ _ _ x hx
    · simp at hx; omega
    · exact putB_lt _ _ _ x hx
theorem arpR_lt (h : Hd) (b0 : Nat) (hb : b0 < 256) : ∀ x ∈ arpR h b0, x < 256 := by
  intro x hx
  simp only [arpR, List.mem_append] at hx
  rcases hx with hx | hx | hx | hx | hx
  · simp at hx; omega
  · exact putB_lt _ _ _ x hx
  · exact putB_lt _ _ _ x hx
  · exact putB_lt _ _ _ x hx
  · exact putB_lt _ _ _ x hx
theorem frmR_lt (h : Hd) (b : List Nat) (hb : ∀ x ∈ b, x < 256) : ∀ x ∈ frmR h b, x < 256 := by
  have hb0 : b.getD 0 0 < 256 := by
    cases b with
    | nil => simp
    | cons a r => exact hb a (by simp)
  intro x hx
  unfold frmR at hx
  simp only [List.mem_append] at hx
  rcases hx with (((hx | hx) | hx) | hx) | hx
  · exact putB_lt _ _ _ x hx
  · exact putB_lt _ _ _ x hx
  · cases h1 : decide (h 3 = 0) <;> rw [h1] at hx <;> simp only [cond_true, cond_false, List.mem_append, List.not_mem_nil] at hx
    rcases hx with hx | hx <;> exact putB_lt _ _ _ x hx
  · exact putB_lt _ _ _ x hx
  · cases h1 : decide (h 2 = 2054) <;> rw [h1] at hx <;> simp only [cond_true, cond_false] at hx
    · cases h2 : decide (h 2 = 2048) <;> rw [h2] at hx <;> simp only [cond_true, cond_false] at hx
      · exact hb x hx
      · simp only [inetR, List.mem_append] at hx
        rcases hx with hx | hx | hx
        · exact headR_lt _ _ x hx
        · exact portsR_lt _ _ x hx
        · exact hb x hx
    · exact arpR_lt _ _ hb0 x hx
theorem frmR_len {h : Hd} {b : List Nat} (h1 : decide (h 2 = 2054) = false) : 14 + b.length ≤ (frmR h b).length := by
  unfold frmR
  rw [h1]
  cases h2 : decide (h 2 = 2048) <;> simp [putB_len, inetR] <;> omega
theorem bld_eq {h : Hd} {b : List Nat} (hb : ∀ x ∈ b, x < 256) : bldE h b = bldF h b := by
  unfold bldE bldF
  cases ok : okH h
  · rfl
  rw [frm_eq ok hb]
  have hm : 1514 ≤ mostH h ∧ mostH h ≤ 1518 := by unfold mostH; cases decide (h 3 = 0) <;> simp
  simp only [cond_true]
  cases k : (decide (h 2 = 2054) && !asks b)
  · simp only [cond_false]
    cases l : decide (1514 < b.length)
    · have h1 : decide (mostH h < b.length) = false := by have := of_decide_eq_false l; simp; omega
      rw [h1, cond_false]
    · have l := of_decide_eq_true l
      have h2 : decide (h 2 = 2054) = false := by
        cases h2 : decide (h 2 = 2054)
        · rfl
        · rw [h2] at k
          have ak : asks b = true := by
            cases e : asks b
            · rw [e] at k; cases k
            · rfl
          obtain ⟨x, rfl, _⟩ := asks_one ak
          simp at l
      have h3 := frmR_len (b := b) h2
      have h4 : decide (mostH h < (frmR h b).length) = true := by simp; omega
      rw [h4]
      cases decide (mostH h < b.length) <;> rfl
  · rfl
theorem ansB35 (h : Hd) (b : List Nat) (hh : U64h h) (hb : ∀ x ∈ b, x < 256) (hbl : b.length < 140737488351233) : AnsB Try.prog 35 [pkA h b] (.tup [byV (bldO h b), .int .i64 (bldF h b : Int)]) := by
  refine ansB_of ((snd18 h b hh hb hbl).mono ?_)
  rintro q (⟨h0, m1, k, n, rfl, _, hk, hn⟩ | ⟨h0, m1, rfl, _⟩)
  · rw [bld_eq hb] at h0
    have ok : okH h = true := by
      cases e : okH h
      · simp [bldF, e] at h0
      · rfl
    rw [frm_eq ok hb] at hk hn
    exact ⟨m1, _, rfl, retG h0 hk hn⟩
  · rw [bld_eq hb] at h0 ⊢
    exact ⟨m1, _, rfl, retE h0 rfl⟩
theorem ans35 (h : Hd) (b : List Nat) (hh : U64h h) (hb : ∀ x ∈ b, x < 256) (hbl : b.length < 140737488351233) : Ans Try.prog 35 [pkA h b] (.tup [byV (bldO h b), .int .i64 (bldF h b : Int)]) := (ansB35 h b hh hb hbl).ans (by simp only [nfs, nf_pkA, Bool.and_self]) (by simp only [nf, nfs, nf_by, Bool.and_self])
theorem bldO_lt (h : Hd) (b : List Nat) (hb : ∀ x ∈ b, x < 256) : ∀ x ∈ bldO h b, x < 256 := by
  unfold bldO
  cases decide (bldF h b = 0)
  · intro x hx; simp at hx
  · exact frmR_lt h b hb
end Go.Proofs.Ytpmbhjmlghoogaa
