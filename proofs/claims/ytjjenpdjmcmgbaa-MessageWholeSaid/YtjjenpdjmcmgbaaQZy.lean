/- Arguments of law07: messages. No condition. -/
import Derived.Test.YtjjenpdjmcmgbaaQZx
namespace Go.Proofs.Ytjjenpdjmcmgbaa
open Go Ab
set_option linter.unusedSimpArgs false
set_option linter.unusedVariables false
set_option maxRecDepth 20000
theorem cl_u64 {n : Nat} {vs : List V} {f : Nat → Int} (h : inK .u64 n f) (e : vs = cl .u64 n f) : ∃ g : Nat → Nat, U64 n g ∧ vs = cl .u64 n fun i => (g i : Int) := by
  obtain ⟨g, h1, h2⟩ := cl_nat h
  exact ⟨g, h1, e.trans h2⟩
theorem op26 {d : Nat} {l : List V} (h : rdT Try.prog (d + 2) 26 l) : ∃ g : Nat → Nat, U64 11 g ∧ l = cl .u64 11 fun i => (g i : Int) := by
  obtain ⟨f, h1, h2⟩ := rd_cl Try.underlying26 Try.underlying24 h
  exact cl_u64 h1 h2
theorem cl_two (f g : Nat → Int) (n k : Nat) : cl .u64 n f ++ cl .u64 k g = cl .u64 (n + k) fun i => if i < n then f i else g (i - n) := by
  apply List.ext_getElem?
  intro i
  rcases Nat.lt_or_ge i n with hi | hi
  · rw [List.getElem?_append_left (by simpa using hi), cl_get hi, cl_get (by omega), if_pos hi]
  · rw [List.getElem?_append_right (by simpa using hi), cl_length]
    by_cases h : i < n + k
    · rw [cl_get (by omega), cl_get h, if_neg (by omega)]
    · rw [List.getElem?_eq_none (by simp; omega), List.getElem?_eq_none (by simp; omega)]
theorem op28 {d : Nat} {l : List V} (h : rdT Try.prog (d + 3) 28 l) : ∃ g : Nat → Nat, U64 22 g ∧ l = mC g := by
  obtain ⟨ps, rfl, k⟩ := rd_str Try.underlying28 h
  clear h
  have k : rdF (rdT Try.prog (d + 2)) [26, 26] ps := k
  match ps, k with
  | [l1, l2], ⟨h1, h2, _⟩ =>
    obtain ⟨f, k1, rfl⟩ := op26 h1
    obtain ⟨g, k2, rfl⟩ := op26 h2
    refine ⟨fun i => if i < 11 then f i else g (i - 11), fun i hi => ?_, ?_⟩
    · simp only
      split
      · exact k1 i (by omega)
      · exact k2 (i - 11) (by omega)
    · show cl .u64 11 (fun i => (f i : Int)) ++ (cl .u64 11 (fun i => (g i : Int)) ++ []) = _
      rw [List.append_nil]
      unfold mC
      rw [cl_two]
      refine cl_congr fun i _ => ?_
      simp only
      split <;> rfl
  | [], h => exact h.elim
  | [_], h => exact h.2.elim
  | _ :: _ :: _ :: _, h => exact h.2.2.elim
theorem nat_u64 {x : Int} (h : (Lit.int .u64 x).wf = true) : ∃ n : Nat, x = (n : Int) ∧ n < 18446744073709551616 := by
  simp [Lit.wf, IntKind.min, IntKind.max, IntKind.bits, IntKind.signed] at h
  exact ⟨x.toNat, by omega, by omega⟩
theorem nat_u32 {x : Int} (h : (Lit.int .u32 x).wf = true) : ∃ n : Nat, x = (n : Int) ∧ n < 4294967296 := by
  simp [Lit.wf, IntKind.min, IntKind.max, IntKind.bits, IntKind.signed] at h
  exact ⟨x.toNat, by omega, by omega⟩
theorem nat_u16 {x : Int} (h : (Lit.int .u16 x).wf = true) : ∃ n : Nat, x = (n : Int) ∧ n < 65536 := by
  simp [Lit.wf, IntKind.min, IntKind.max, IntKind.bits, IntKind.signed] at h
  exact ⟨x.toNat, by omega, by omega⟩
theorem nat_u8 {x : Int} (h : (Lit.int .u8 x).wf = true) : ∃ n : Nat, x = (n : Int) ∧ n < 256 := by
  simp [Lit.wf, IntKind.min, IntKind.max, IntKind.bits, IntKind.signed] at h
  exact ⟨x.toNat, by omega, by omega⟩
theorem in_i8 {x : Int} (h : (Lit.int .i8 x).wf = true) : -128 ≤ x ∧ x < 128 := by
  simp [Lit.wf, IntKind.min, IntKind.max, IntKind.bits, IntKind.signed] at h
  omega
theorem in_i64 {x : Int} (h : (Lit.int .i64 x).wf = true) : -9223372036854775808 ≤ x ∧ x < 9223372036854775808 := by
  simp [Lit.wf, IntKind.min, IntKind.max, IntKind.bits, IntKind.signed] at h
  omega
theorem op123 {d : Nat} {l : List V} (h : rdT Try.prog (d + 2) 123 l) : ∃ a : Act, wfA a ∧ l = acC a := by
  obtain ⟨ps, rfl, k⟩ := rd_str Try.underlying123 h
  clear h
  have k : rdF (rdT Try.prog (d + 1)) [22, 22, 24] ps := k
  match ps, k with
  | [l1, l2, l3], ⟨h1, h2, h3, _⟩ =>
    obtain ⟨x, rfl, hx⟩ := rd_int Try.underlying22 h1
    obtain ⟨y, rfl, hy⟩ := rd_int Try.underlying22 h2
    obtain ⟨z, rfl, hz⟩ := rd_int Try.underlying24 h3
    obtain ⟨n, rfl, hn⟩ := nat_u64 hz
    exact ⟨⟨x, y, n⟩, ⟨in_i8 hx, in_i8 hy, hn⟩, rfl⟩
  | [], h => exact h.elim
  | [_], h => exact h.2.elim
  | [_, _], h => exact h.2.2.elim
  | _ :: _ :: _ :: _ :: _, h => exact h.2.2.2.elim
theorem co123 : Try.prog.cellsOf 123 = 3 := by kernel_rfl
theorem bo123 : Nat.blt 0 (Try.prog.bytesOf 123) = true := by kernel_rfl
theorem co99 : Try.prog.cellsOf 99 = 1 := by kernel_rfl
theorem bo99 : Nat.blt 0 (Try.prog.bytesOf 99) = true := by kernel_rfl
theorem co59 : Try.prog.cellsOf 59 = 27 := by kernel_rfl
theorem bo59 : Nat.blt 0 (Try.prog.bytesOf 59) = true := by kernel_rfl
theorem co32 : Try.prog.cellsOf 32 = 1 := by kernel_rfl
theorem bo32 : Nat.blt 0 (Try.prog.bytesOf 32) = true := by kernel_rfl
theorem co5 : Try.prog.cellsOf 5 = 1 := by kernel_rfl
theorem bo5 : Nat.blt 0 (Try.prog.bytesOf 5) = true := by kernel_rfl
theorem small_of {n b : Nat} (hb : Nat.blt 0 b = true) (h : n * b ≤ reachBytes) : n < lim := by
  have h4 : 0 < b := by simpa using hb
  have h5 : n ≤ n * b := Nat.le_mul_of_pos_right _ h4
  have h6 : reachBytes < lim := by decide
  omega
theorem op99 {d : Nat} {l : List V} (h : rdT Try.prog (d + 3) 99 l) : ∃ c : List Act, wfC c ∧ l = [cpV c] := by
  obtain ⟨es, rfl, h1, h2⟩ := rd_isl Try.underlying99 h
  obtain ⟨c, h3, rfl⟩ := rd_map acC wfA (fun l h => op123 h) h2
  rw [List.length_map] at h1
  exact ⟨c, ⟨small_of bo123 h1, h3⟩, by rw [co123]; rfl⟩
theorem op29 {d : Nat} {l : List V} (h : rdT Try.prog (d + 4) 29 l) : ∃ c : List (List Act), wfL c ∧ l = [cpsV c] := by
  obtain ⟨es, rfl, h1, h2⟩ := rd_isl Try.underlying29 h
  obtain ⟨c, h3, rfl⟩ := rd_map (fun c => [cpV c]) wfC (fun l h => op99 h) h2
  rw [List.length_map] at h1
  exact ⟨c, ⟨small_of bo99 h1, h3⟩, by rw [co99]; rfl⟩
theorem op31 {d : Nat} {l : List V} (h : rdT Try.prog (d + 5) 31 l) : ∃ r : Ru, wfR r ∧ l = ruC r := by
  obtain ⟨ps, rfl, k⟩ := rd_str Try.underlying31 h
  clear h
  have k : rdF (rdT Try.prog (d + 4)) [3, 28, 29, 24] ps := k
  match ps, k with
  | [l1, l2, l3, l4], ⟨h1, h2, h3, h4, _⟩ =>
    obtain ⟨x, rfl, hx⟩ := rd_int Try.underlying3 h1
    obtain ⟨m, hm, rfl⟩ := op28 (d := d + 1) h2
    obtain ⟨c, hc, rfl⟩ := op29 h3
    obtain ⟨z, rfl, hz⟩ := rd_int Try.underlying24 h4
    obtain ⟨n, rfl, hn⟩ := nat_u64 hz
    exact ⟨⟨x, m, c, n⟩, ⟨in_i64 hx, hm, hc, hn⟩, rfl⟩
  | [], h => exact h.elim
  | [_], h => exact h.2.elim
  | [_, _], h => exact h.2.2.elim
  | [_, _, _], h => exact h.2.2.2.elim
  | _ :: _ :: _ :: _ :: _ :: _, h => exact h.2.2.2.2.elim
theorem op59 {d : Nat} {l : List V} (h : rdT Try.prog (d + 6) 59 l) : ∃ q : He, wfH q ∧ l = heC q := by
  obtain ⟨ps, rfl, k⟩ := rd_str Try.underlying59 h
  clear h
  have k : rdF (rdT Try.prog (d + 5)) [31, 57] ps := k
  match ps, k with
  | [l1, l2], ⟨h1, h2, _⟩ =>
    obtain ⟨r, hr, rfl⟩ := op31 h1
    obtain ⟨qs, rfl, k2⟩ := rd_str (d := d + 4) Try.underlying57 h2
    clear h2
    have k3 : rdF (rdT Try.prog (d + 4)) [24, 24] qs := k2
    match qs, k3 with
    | [l3, l4], ⟨h3, h4, _⟩ =>
      obtain ⟨x, rfl, hx⟩ := rd_int (d := d + 3) Try.underlying24 h3
      obtain ⟨y, rfl, hy⟩ := rd_int (d := d + 3) Try.underlying24 h4
      obtain ⟨x, rfl, hx2⟩ := nat_u64 hx
      obtain ⟨y, rfl, hy2⟩ := nat_u64 hy
      exact ⟨⟨r, x, y⟩, ⟨hr, hx2, hy2⟩, rfl⟩
    | [], h => exact h.elim
    | [_], h => exact h.2.elim
    | _ :: _ :: _ :: _, h => exact h.2.2.elim
  | [], h => exact h.elim
  | [_], h => exact h.2.elim
  | _ :: _ :: _ :: _, h => exact h.2.2.elim
theorem op35 {d : Nat} {l : List V} (h : rdT Try.prog (d + 7) 35 l) : ∃ c : List He, (c.length < lim ∧ ∀ q ∈ c, wfH q) ∧ l = [hesV c] := by
  obtain ⟨es, rfl, h1, h2⟩ := rd_isl Try.underlying35 h
  obtain ⟨c, h3, rfl⟩ := rd_map heC wfH (fun l h => op59 h) h2
  rw [List.length_map] at h1
  exact ⟨c, ⟨small_of bo59 h1, h3⟩, by rw [co59]; rfl⟩
theorem op33 {d : Nat} {l : List V} (h : rdT Try.prog (d + 2) 33 l) : ∃ c : List Nat, (c.length < lim ∧ ∀ q ∈ c, q < 65536) ∧ l = [poV c] := by
  obtain ⟨es, rfl, h1, h2⟩ := rd_isl Try.underlying33 h
  obtain ⟨c, h3, rfl⟩ := rd_map poC (fun q => q < 65536) (fun l h => by
    obtain ⟨x, rfl, hx⟩ := rd_int Try.underlying32 h
    obtain ⟨x, rfl, hx2⟩ := nat_u16 hx
    exact ⟨x, hx2, rfl⟩) h2
  rw [List.length_map] at h1
  exact ⟨c, ⟨small_of bo32 h1, h3⟩, by rw [co32]; rfl⟩
theorem op34 {d : Nat} {l : List V} (h : rdT Try.prog (d + 2) 34 l) : ∃ c : List Nat, (c.length < lim ∧ ∀ q ∈ c, q < 256) ∧ l = [byV c] := by
  obtain ⟨es, rfl, h1, h2⟩ := rd_isl Try.underlying34 h
  obtain ⟨c, h3, rfl⟩ := rd_map byC (fun q => q < 256) (fun l h => by
    obtain ⟨x, rfl, hx⟩ := rd_int Try.underlying5 h
    obtain ⟨x, rfl, hx2⟩ := nat_u8 hx
    exact ⟨x, hx2, rfl⟩) h2
  rw [List.length_map] at h1
  exact ⟨c, ⟨small_of bo5 h1, h3⟩, by rw [co5]; rfl⟩
theorem rd_bool {P : Program} {d : Nat} {t : TypeId} {vs : List V} (hu : P.underlying t = some .bool) (h : rdT P (d + 1) t vs) : ∃ b, vs = [.bool b] := by
  simpa only [rdT, hu] using h
theorem op37 {d : Nat} {l : List V} (h : rdT Try.prog (d + 8) 37 l) : ∃ x : Ms, wfM x ∧ l = msC x := by
  obtain ⟨ps, rfl, k⟩ := rd_str Try.underlying37 h
  clear h
  have k : rdF (rdT Try.prog (d + 7)) [22, 23, 22, 31, 32, 4, 32, 33, 33, 34, 35, 32] ps := k
  have hl : ∀ {R : TypeId → List V → Prop} {ts : List TypeId} {ps : List (List V)}, rdF R ts ps → ps.length = ts.length := by
    intro R ts
    induction ts with
    | nil => intro ps h; cases ps with
      | nil => rfl
      | cons => exact h.elim
    | cons t ts ih => intro ps h; cases ps with
      | nil => exact h.elim
      | cons p ps => simp [ih h.2]
  have hn := hl k
  match ps, hn, k with
  | [l1, l2, l3, l4, l5, l6, l7, l8, l9, l10, l11, l12], _, ⟨h1, h2, h3, h4, h5, h6, h7, h8, h9, h10, h11, h12, _⟩ =>
    obtain ⟨ty, rfl, hty⟩ := rd_int (d := d + 6) Try.underlying22 h1
    obtain ⟨id, rfl, hid⟩ := rd_int (d := d + 6) Try.underlying23 h2
    obtain ⟨dd, rfl, hdd⟩ := rd_int (d := d + 6) Try.underlying22 h3
    obtain ⟨r, hr, rfl⟩ := op31 (d := d + 2) h4
    obtain ⟨po, rfl, hpo⟩ := rd_int (d := d + 6) Try.underlying32 h5
    obtain ⟨up, rfl⟩ := rd_bool (d := d + 6) Try.underlying4 h6
    obtain ⟨sw, rfl, hsw⟩ := rd_int (d := d + 6) Try.underlying32 h7
    obtain ⟨ports, hports, rfl⟩ := op33 (d := d + 5) h8
    obtain ⟨edge, hedge, rfl⟩ := op33 (d := d + 5) h9
    obtain ⟨frame, hframe, rfl⟩ := op34 (d := d + 5) h10
    obtain ⟨helds, hhelds, rfl⟩ := op35 h11
    obtain ⟨code, rfl, hcode⟩ := rd_int (d := d + 6) Try.underlying32 h12
    obtain ⟨id, rfl, gid⟩ := nat_u32 hid
    obtain ⟨po, rfl, gpo⟩ := nat_u16 hpo
    obtain ⟨sw, rfl, gsw⟩ := nat_u16 hsw
    obtain ⟨code, rfl, gcode⟩ := nat_u16 hcode
    exact ⟨⟨ty, id, dd, r, po, up, sw, ports, edge, frame, helds, code⟩, ⟨in_i8 hty, gid, in_i8 hdd, hr, gpo, gsw, hports, hedge, hframe, hhelds, gcode⟩, rfl⟩
theorem pl37 : plainT Try.prog 9 37 = true := by kernel_rfl
end Go.Proofs.Ytjjenpdjmcmgbaa
