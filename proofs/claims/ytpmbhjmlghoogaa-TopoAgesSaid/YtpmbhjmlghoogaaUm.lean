/- The deals of the law, as they are read. No condition. -/
import Derived.Test.YtpmbhjmlghoogaaUl
namespace Go.Proofs.Ytpmbhjmlghoogaa
open Go Ab
set_option linter.unusedSimpArgs false
set_option linter.unusedVariables false
set_option maxRecDepth 20000

theorem pl23 : plainT Try.prog 9 23 = true := by kernel_rfl
theorem co33 : Try.prog.cellsOf 33 = 11 := by kernel_rfl
theorem bo33 : Nat.blt 0 (Try.prog.bytesOf 33) = true := by kernel_rfl
theorem nfss_all : ∀ {es : List (List V)}, (∀ l ∈ es, nfs l = true) → nfss es = true
  | [], _ => rfl
  | e :: r, h => by simp only [nfss, h e (by simp), nfss_all (es := r) fun l hl => h l (by simp [hl]), Bool.and_self]
theorem rd_ints {d t e : Nat} {k : IntKind} {l : List V} (ht : Try.prog.underlying t = some (.slice e)) (he : Try.prog.underlying e = some (.int k)) (h : rdT Try.prog (d + 2) t l) : ∃ v, nf v = true ∧ l = [v] := by
  obtain ⟨es, rfl, _, h2⟩ := rd_isl ht h
  refine ⟨_, ?_, rfl⟩
  simp only [nf]
  refine nfss_all fun l hl => ?_
  obtain ⟨x, rfl, _⟩ := rd_int he (h2 l hl)
  rfl
theorem nat_of {k : IntKind} {z : Int} (h : (Lit.int k z).wf = true) (h0 : 0 ≤ z) : ((z.toNat : Nat) : Int) = z := by omega
theorem u16_of {z : Int} (h : (Lit.int .u16 z).wf = true) : ∃ n : Nat, n < 65536 ∧ z = (n : Int) := by
  simp [Lit.wf, IntKind.min, IntKind.max, IntKind.bits, IntKind.signed] at h
  exact ⟨z.toNat, by omega, by omega⟩
theorem u64_of {z : Int} (h : (Lit.int .u64 z).wf = true) : ∃ n : Nat, n < 18446744073709551616 ∧ z = (n : Int) := by
  simp [Lit.wf, IntKind.min, IntKind.max, IntKind.bits, IntKind.signed] at h
  exact ⟨z.toNat, by omega, by omega⟩
theorem op30n {d : Nat} {l : List V} (h : rdT Try.prog (d + 2) 30 l) : ∃ s p : Nat, s < 65536 ∧ p < 65536 ∧ l = spC s p := by
  obtain ⟨ps, rfl, k⟩ := rd_str Try.underlying30 h
  clear h
  have k : rdF (rdT Try.prog (d + 1)) [27, 27] ps := k
  match ps, k with
  | [l1, l2], ⟨h1, h2, _⟩ =>
    obtain ⟨x, rfl, hx⟩ := rd_int Try.underlying27 h1
    obtain ⟨y, rfl, hy⟩ := rd_int Try.underlying27 h2
    obtain ⟨s, hs, rfl⟩ := u16_of hx
    obtain ⟨p, hp, rfl⟩ := u16_of hy
    exact ⟨s, p, hs, hp, rfl⟩
  | [], h => exact h.elim
  | [_], h => exact h.2.elim
  | _ :: _ :: _ :: _, h => exact h.2.2.elim
theorem rdF_cons {G : TypeId → List V → Prop} {t : TypeId} {ts : List TypeId} : ∀ {ps : List (List V)}, rdF G (t :: ts) ps → ∃ l r, ps = l :: r ∧ G t l ∧ rdF G ts r
  | [], h => h.elim
  | l :: r, h => ⟨l, r, rfl, h.1, h.2⟩
theorem rdF_nil {G : TypeId → List V → Prop} : ∀ {ps : List (List V)}, rdF G [] ps → ps = []
  | [], _ => rfl
  | _ :: _, h => h.elim
theorem op33 {d : Nat} {l : List V} (h : rdT Try.prog (d + 3) 33 l) : ∃ x, DlOk x ∧ l = dlC x := by
  obtain ⟨ps, rfl, k⟩ := rd_str Try.underlying33 h
  clear h
  have k : rdF (rdT Try.prog (d + 2)) [3, 30, 30, 28, 28, 4, 31, 22, 3] ps := k
  obtain ⟨l1, ps, rfl, h1, k⟩ := rdF_cons k
  obtain ⟨l2, ps, rfl, h2, k⟩ := rdF_cons k
  obtain ⟨l3, ps, rfl, h3, k⟩ := rdF_cons k
  obtain ⟨l4, ps, rfl, h4, k⟩ := rdF_cons k
  obtain ⟨l5, ps, rfl, h5, k⟩ := rdF_cons k
  obtain ⟨l6, ps, rfl, h6, k⟩ := rdF_cons k
  obtain ⟨l7, ps, rfl, h7, k⟩ := rdF_cons k
  obtain ⟨l8, ps, rfl, h8, k⟩ := rdF_cons k
  obtain ⟨l9, ps, rfl, h9, k⟩ := rdF_cons k
  obtain rfl := rdF_nil k
  clear k
  obtain ⟨w, rfl, hw⟩ := rd_int Try.underlying3 h1
  obtain ⟨s, p, hs, hp, rfl⟩ := op30n h2
  obtain ⟨os, op, hos, hop, rfl⟩ := op30n h3
  obtain ⟨e, he, rfl⟩ := rd_ints Try.underlying28 Try.underlying27 h4
  obtain ⟨i, hi, rfl⟩ := rd_ints Try.underlying28 Try.underlying27 h5
  have h6 : ∃ b, l6 = [V.bool b] := by simpa only [rdT, Try.underlying4] using h6
  obtain ⟨u, rfl⟩ := h6
  obtain ⟨f, hf, rfl⟩ := rd_ints Try.underlying31 Try.underlying5 h7
  obtain ⟨kk, rfl, hk⟩ := rd_int Try.underlying22 h8
  obtain ⟨kk, hkl, rfl⟩ := u64_of hk
  obtain ⟨b, rfl, hb⟩ := rd_int Try.underlying3 h9
  exact ⟨⟨w, s, p, os, op, e, i, .bool u, f, kk, b⟩, ⟨hs, hp, hos, hop, hkl, he, hi, rfl, hf, hb⟩, rfl⟩
theorem op23 {d : Nat} {l : List V} (h : rdT Try.prog (d + 4) 23 l) : ∃ c : List Dl, ((∀ x ∈ c, DlOk x) ∧ c.length < 9223372036854775807) ∧ l = [dlV c] := by
  obtain ⟨es, rfl, h1, h2⟩ := rd_isl Try.underlying23 h
  obtain ⟨c, h3, rfl⟩ := rd_map dlC DlOk (fun l h => op33 h) h2
  rw [List.length_map] at h1
  have h4 : 0 < Try.prog.bytesOf 33 := by simpa using bo33
  have h5 : c.length ≤ c.length * Try.prog.bytesOf 33 := Nat.le_mul_of_pos_right _ h4
  have h6 : reachBytes < 9223372036854775807 := by decide
  exact ⟨c, ⟨h3, by omega⟩, by rw [co33]; rfl⟩
theorem ans3r (n : Int) (hn : (Lit.int .u64 n).wf = true) (a : Int) (c : List Dl) (hc : (∀ x ∈ c, DlOk x) ∧ c.length < 9223372036854775807) : Ans Try.prog 3 [.int .u64 n, .int .i64 a, dlV c] (.bool true) := by
  obtain ⟨k, hk, rfl⟩ := u64_of hn
  exact ans3i k a c hk hc.1 hc.2
end Go.Proofs.Ytpmbhjmlghoogaa
