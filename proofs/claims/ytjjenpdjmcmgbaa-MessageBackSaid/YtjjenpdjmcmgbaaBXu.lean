/- What Decode and Encode answer, told for callers. No condition. No message's bytes begin another one's. No condition. Arguments of law07: messages. No condition. No message's bytes begin another one's: its arguments. No condition. A message is the same as itself. No condition. -/
import Derived.Test.YtjjenpdjmcmgbaaBXq
import Derived.Test.YtjjenpdjmcmgbaaBXo
namespace Go.Proofs.Ytjjenpdjmcmgbaa
open Go Ab
set_option linter.unusedSimpArgs false
set_option linter.unusedVariables false
set_option maxRecDepth 20000
section
variable {P : Program} {f : FuncId} {vs vs' : List V} {m m' : Mem} {v u e : V} {l : List V}
/-- An answer's nil slices, told as empty ones. -/
theorem ans_wk1 (h : Snd P f vs [] fun r => ∃ m1 C, r = .ret (.tup [.agg C, e]) m1 ∧ Wks C l) : Ans P f vs (.tup [.agg l, e]) := by
  intro ρ I w xs hr hl hrt
  refine (h ρ I w xs hr hl hrt).mono ?_
  rintro ex w' ⟨r, ⟨m1, C, rfl, hw⟩, x, ρ', I', rfl, k1, k2, k3⟩
  refine ⟨.ret (.tup [.agg l, e]) m1, ⟨m1, rfl⟩, x, ρ', I', rfl, k1, k2, ?_⟩
  have k3 : RV m1.length ρ' I' w' (.tup [.agg C, e]) x := k3
  show RV m1.length ρ' I' w' (.tup [.agg l, e]) x
  simp only [RV, Rt] at k3 ⊢
  obtain ⟨c, h1, h2, ⟨y, h3, h4⟩, h5⟩ := k3
  refine ⟨c, h1, h2, ⟨y, h3, ?_⟩, h5⟩
  have := hw.agg (x := y) (by simp only [RV]; exact h4)
  simpa only [RV] using this
end
theorem snd12 {b : List Nat} (hb : Byt b) : Snd Try.prog 12 [byV b] [] (RD b) := by
  cases hs : short b
  · exact snd12b hb hs
  · exact snd12a hb hs
theorem ans12 {b : List Nat} (hb : Byt b) : Ans Try.prog 12 [byV b] (.tup [.agg (msC (decX b)), .int .i64 (decE b)]) := ans_wk1 (snd12 hb)
end Go.Proofs.Ytjjenpdjmcmgbaa
namespace Go.Proofs.Ytjjenpdjmcmgbaa
open Go Ab
set_option linter.unusedSimpArgs false
set_option linter.unusedVariables false
set_option maxRecDepth 20000
theorem enc2 (v : Nat) : enc v 2 = [v / 256 % 256, v % 256] := by
  show [v / 2 ^ (8 * (2 - 1 - 0)) % 256, v / 2 ^ (8 * (2 - 1 - 1)) % 256] = _
  simp
theorem whole_cons (x : Ms) : whole x = 1 :: i8N x.ty :: (((body x).length + 8) / 256 % 256) :: (((body x).length + 8) % 256) :: (enc x.id 4 ++ body x) := by
  unfold whole head
  rw [enc2]
  simp
theorem whole_all {x : Ms} (h : fits x = true) : allB (whole x) = (whole x).length ∧ 8 ≤ (whole x).length ∧ (whole x).length ≤ 8192 := by
  have hf : (body x).length + 8 ≤ 8192 := by simpa [fits] using h
  have hl : (whole x).length = (body x).length + 8 := by rw [whole_len]; omega
  rw [hl, whole_cons]
  refine ⟨?_, by omega, hf⟩
  show ((body x).length + 8) / 256 % 256 * 256 + ((body x).length + 8) % 256 = _
  omega
theorem put_lt {x : Ms} : ∀ b ∈ enc x.id 4, b < 256 := putB_lt _ _ _
end Go.Proofs.Ytjjenpdjmcmgbaa
namespace Go.Proofs.Ytjjenpdjmcmgbaa
open Go Ab
set_option linter.unusedSimpArgs false
set_option linter.unusedVariables false
set_option maxRecDepth 20000
theorem cl_u64 {n : Nat} {vs : List V} {f : Nat → Int} (h : inK .u64 n f) (e : vs = cl .u64 n f) : ∃ g : Nat → Nat, U64 n g ∧ vs = cl .u64 n fun i => (g i : Int) := by
  obtain ⟨g, h1, h2⟩ := cl_nat h
  exact ⟨g, h1, e.trans h2⟩
theorem op26 {d : Nat} {l : List V} (h : rdT Try.prog (d + 2) 26 l) : ∃ g : Nat → Nat, U64 11 g ∧ l = cl .u64 11 fun i => (g i : Int) := by
  obtain ⟨f, h1, h2⟩ := rd_cl Try.underlying26 Try.underlying24 h
  exact cl_u64 h1 h2
theorem cl_two (f g : Nat → Int) (n k : Nat) : cl .u64 n f ++ cl .u64 k g = cl .u64 (n + k) fun i => if i < n then f i else g (i - n) := by
  apply List.ext_getElem?
  intro i
  rcases Nat.lt_or_ge i n with hi | hi
  · rw [List.getElem?_append_left (by simpa using hi), cl_get hi, cl_get (by omega), if_pos hi]
  · rw [List.getElem?_append_right (by simpa using hi), cl_length]
    by_cases h : i < n + k
    · rw [cl_get (by omega), cl_get h, if_neg (by omega)]
    · rw [List.getElem?_eq_none (by simp; omega), List.getElem?_eq_none (by simp; omega)]
theorem op28 {d : Nat} {l : List V} (h : rdT Try.prog (d + 3) 28 l) : ∃ g : Nat → Nat, U64 22 g ∧ l = mC g := by
  obtain ⟨ps, rfl, k⟩ := rd_str Try.underlying28 h
  clear h
  have k : rdF (rdT Try.prog (d + 2)) [26, 26] ps := k
  match ps, k with
  | [l1, l2], ⟨h1, h2, _⟩ =>
    obtain ⟨f, k1, rfl⟩ := op26 h1
    obtain ⟨g, k2, rfl⟩ := op26 h2
    refine ⟨fun i => if i < 11 then f i else g (i - 11), fun i hi => ?_, ?_⟩
    · simp only
      split
      · exact k1 i (by omega)
      · exact k2 (i - 11) (by omega)
    · show cl .u64 11 (fun i => (f i : Int)) ++ (cl .u64 11 (fun i => (g i : Int)) ++ []) = _
      rw [List.append_nil]
      unfold mC
      rw [cl_two]
      refine cl_congr fun i _ => ?_
      simp only
      split <;> rfl
  | [], h => exact h.elim
  | [_], h => exact h.2.elim
  | _ :: _ :: _ :: _, h => exact h.2.2.elim
theorem nat_u64 {x : Int} (h : (Lit.int .u64 x).wf = true) : ∃ n : Nat, x = (n : Int) ∧ n < 18446744073709551616 := by
  simp [Lit.wf, IntKind.min, IntKind.max, IntKind.bits, IntKind.signed] at h
  exact ⟨x.toNat, by omega, by omega⟩
theorem nat_u32 {x : Int} (h : (Lit.int .u32 x).wf = true) : ∃ n : Nat, x = (n : Int) ∧ n < 4294967296 := by
  simp [Lit.wf, IntKind.min, IntKind.max, IntKind.bits, IntKind.signed] at h
  exact ⟨x.toNat, by omega, by omega⟩
theorem nat_u16 {x : Int} (h : (Lit.int .u16 x).wf = true) : ∃ n : Nat, x = (n : Int) ∧ n < 65536 := by
  simp [Lit.wf, IntKind.min, IntKind.max, IntKind.bits, IntKind.signed] at h
  exact ⟨x.toNat, by omega, by omega⟩
theorem nat_u8 {x : Int} (h : (Lit.int .u8 x).wf = true) : ∃ n : Nat, x = (n : Int) ∧ n < 256 := by
  simp [Lit.wf, IntKind.min, IntKind.max, IntKind.bits, IntKind.signed] at h
  exact ⟨x.toNat, by omega, by omega⟩
theorem in_i8 {x : Int} (h : (Lit.int .i8 x).wf = true) : -128 ≤ x ∧ x < 128 := by
  simp [Lit.wf, IntKind.min, IntKind.max, IntKind.bits, IntKind.signed] at h
  omega
theorem in_i64 {x : Int} (h : (Lit.int .i64 x).wf = true) : -9223372036854775808 ≤ x ∧ x < 9223372036854775808 := by
  simp [Lit.wf, IntKind.min, IntKind.max, IntKind.bits, IntKind.signed] at h
  omega
theorem op123 {d : Nat} {l : List V} (h : rdT Try.prog (d + 2) 123 l) : ∃ a : Act, wfA a ∧ l = acC a := by
  obtain ⟨ps, rfl, k⟩ := rd_str Try.underlying123 h
  clear h
  have k : rdF (rdT Try.prog (d + 1)) [22, 22, 24] ps := k
  match ps, k with
  | [l1, l2, l3], ⟨h1, h2, h3, _⟩ =>
    obtain ⟨x, rfl, hx⟩ := rd_int Try.underlying22 h1
    obtain ⟨y, rfl, hy⟩ := rd_int Try.underlying22 h2
    obtain ⟨z, rfl, hz⟩ := rd_int Try.underlying24 h3
    obtain ⟨n, rfl, hn⟩ := nat_u64 hz
    exact ⟨⟨x, y, n⟩, ⟨in_i8 hx, in_i8 hy, hn⟩, rfl⟩
  | [], h => exact h.elim
  | [_], h => exact h.2.elim
  | [_, _], h => exact h.2.2.elim
  | _ :: _ :: _ :: _ :: _, h => exact h.2.2.2.elim
theorem co123 : Try.prog.cellsOf 123 = 3 := by kernel_rfl
theorem bo123 : Nat.blt 0 (Try.prog.bytesOf 123) = true := by kernel_rfl
theorem co99 : Try.prog.cellsOf 99 = 1 := by kernel_rfl
theorem bo99 : Nat.blt 0 (Try.prog.bytesOf 99) = true := by kernel_rfl
theorem co59 : Try.prog.cellsOf 59 = 27 := by kernel_rfl
theorem bo59 : Nat.blt 0 (Try.prog.bytesOf 59) = true := by kernel_rfl
theorem co32 : Try.prog.cellsOf 32 = 1 := by kernel_rfl
theorem bo32 : Nat.blt 0 (Try.prog.bytesOf 32) = true := by kernel_rfl
theorem co5 : Try.prog.cellsOf 5 = 1 := by kernel_rfl
theorem bo5 : Nat.blt 0 (Try.prog.bytesOf 5) = true := by kernel_rfl
theorem small_of {n b : Nat} (hb : Nat.blt 0 b = true) (h : n * b ≤ reachBytes) : n < lim := by
  have h4 : 0 < b := by simpa using hb
  have h5 : n ≤ n * b := Nat.le_mul_of_pos_right _ h4
  have h6 : reachBytes < lim := by decide
  omega
theorem op99 {d : Nat} {l : List V} (h : rdT Try.prog (d + 3) 99 l) : ∃ c : List Act, wfC c ∧ l = [cpV c] := by
  obtain ⟨es, rfl, h1, h2⟩ := rd_isl Try.underlying99 h
  obtain ⟨c, h3, rfl⟩ := rd_map acC wfA (fun l h => op123 h) h2
  rw [List.length_map] at h1
  exact ⟨c, ⟨small_of bo123 h1, h3⟩, by rw [co123]; rfl⟩
theorem op29 {d : Nat} {l : List V} (h : rdT Try.prog (d + 4) 29 l) : ∃ c : List (List Act), wfL c ∧ l = [cpsV c] := by
  obtain ⟨es, rfl, h1, h2⟩ := rd_isl Try.underlying29 h
  obtain ⟨c, h3, rfl⟩ := rd_map (fun c => [cpV c]) wfC (fun l h => op99 h) h2
  rw [List.length_map] at h1
  exact ⟨c, ⟨small_of bo99 h1, h3⟩, by rw [co99]; rfl⟩
theorem op31 {d : Nat} {l : List V} (h : rdT Try.prog (d + 5) 31 l) : ∃ r : Ru, wfR r ∧ l = ruC r := by
  obtain ⟨ps, rfl, k⟩ := rd_str Try.underlying31 h
  clear h
  have k : rdF (rdT Try.prog (d + 4)) [3, 28, 29, 24] ps := k
  match ps, k with
  | [l1, l2, l3, l4], ⟨h1, h2, h3, h4, _⟩ =>
    obtain ⟨x, rfl, hx⟩ := rd_int Try.underlying3 h1
    obtain ⟨m, hm, rfl⟩ := op28 (d := d + 1) h2
    obtain ⟨c, hc, rfl⟩ := op29 h3
    obtain ⟨z, rfl, hz⟩ := rd_int Try.underlying24 h4
    obtain ⟨n, rfl, hn⟩ := nat_u64 hz
    exact ⟨⟨x, m, c, n⟩, ⟨in_i64 hx, hm, hc, hn⟩, rfl⟩
  | [], h => exact h.elim
  | [_], h => exact h.2.elim
  | [_, _], h => exact h.2.2.elim
  | [_, _, _], h => exact h.2.2.2.elim
  | _ :: _ :: _ :: _ :: _ :: _, h => exact h.2.2.2.2.elim
theorem op59 {d : Nat} {l : List V} (h : rdT Try.prog (d + 6) 59 l) : ∃ q : He, wfH q ∧ l = heC q := by
  obtain ⟨ps, rfl, k⟩ := rd_str Try.underlying59 h
  clear h
  have k : rdF (rdT Try.prog (d + 5)) [31, 57] ps := k
  match ps, k with
  | [l1, l2], ⟨h1, h2, _⟩ =>
    obtain ⟨r, hr, rfl⟩ := op31 h1
    obtain ⟨qs, rfl, k2⟩ := rd_str (d := d + 4) Try.underlying57 h2
    clear h2
    have k3 : rdF (rdT Try.prog (d + 4)) [24, 24] qs := k2
    match qs, k3 with
    | [l3, l4], ⟨h3, h4, _⟩ =>
      obtain ⟨x, rfl, hx⟩ := rd_int (d := d + 3) Try.underlying24 h3
      obtain ⟨y, rfl, hy⟩ := rd_int (d := d + 3) Try.underlying24 h4
      obtain ⟨x, rfl, hx2⟩ := nat_u64 hx
      obtain ⟨y, rfl, hy2⟩ := nat_u64 hy
      exact ⟨⟨r, x, y⟩, ⟨hr, hx2, hy2⟩, rfl⟩
    | [], h => exact h.elim
    | [_], h => exact h.2.elim
    | _ :: _ :: _ :: _, h => exact h.2.2.elim
  | [], h => exact h.elim
  | [_], h => exact h.2.elim
  | _ :: _ :: _ :: _, h => exact h.2.2.elim
theorem op35 {d : Nat} {l : List V} (h : rdT Try.prog (d + 7) 35 l) : ∃ c : List He, (c.length < lim ∧ ∀ q ∈ c, wfH q) ∧ l = [hesV c] := by
  obtain ⟨es, rfl, h1, h2⟩ := rd_isl Try.underlying35 h
  obtain ⟨c, h3, rfl⟩ := rd_map heC wfH (fun l h => op59 h) h2
  rw [List.length_map] at h1
  exact ⟨c, ⟨small_of bo59 h1, h3⟩, by rw [co59]; rfl⟩
theorem op33 {d : Nat} {l : List V} (h : rdT Try.prog (d + 2) 33 l) : ∃ c : List Nat, (c.length < lim ∧ ∀ q ∈ c, q < 65536) ∧ l = [poV c] := by
  obtain ⟨es, rfl, h1, h2⟩ := rd_isl Try.underlying33 h
  obtain ⟨c, h3, rfl⟩ := rd_map poC (fun q => q < 65536) (fun l h => by
    obtain ⟨x, rfl, hx⟩ := rd_int Try.underlying32 h
    obtain ⟨x, rfl, hx2⟩ := nat_u16 hx
    exact ⟨x, hx2, rfl⟩) h2
  rw [List.length_map] at h1
  exact ⟨c, ⟨small_of bo32 h1, h3⟩, by rw [co32]; rfl⟩
theorem op34 {d : Nat} {l : List V} (h : rdT Try.prog (d + 2) 34 l) : ∃ c : List Nat, (c.length < lim ∧ ∀ q ∈ c, q < 256) ∧ l = [byV c] := by
  obtain ⟨es, rfl, h1, h2⟩ := rd_isl Try.underlying34 h
  obtain ⟨c, h3, rfl⟩ := rd_map byC (fun q => q < 256) (fun l h => by
    obtain ⟨x, rfl, hx⟩ := rd_int Try.underlying5 h
    obtain ⟨x, rfl, hx2⟩ := nat_u8 hx
    exact ⟨x, hx2, rfl⟩) h2
  rw [List.length_map] at h1
  exact ⟨c, ⟨small_of bo5 h1, h3⟩, by rw [co5]; rfl⟩
theorem rd_bool {P : Program} {d : Nat} {t : TypeId} {vs : List V} (hu : P.underlying t = some .bool) (h : rdT P (d + 1) t vs) : ∃ b, vs = [.bool b] := by
  simpa only [rdT, hu] using h
theorem op37 {d : Nat} {l : List V} (h : rdT Try.prog (d + 8) 37 l) : ∃ x : Ms, wfM x ∧ l = msC x := by
  obtain ⟨ps, rfl, k⟩ := rd_str Try.underlying37 h
  clear h
  have k : rdF (rdT Try.prog (d + 7)) [22, 23, 22, 31, 32, 4, 32, 33, 33, 34, 35, 32] ps := k
  have hl : ∀ {R : TypeId → List V → Prop} {ts : List TypeId} {ps : List (List V)}, rdF R ts ps → ps.length = ts.length := by
    intro R ts
    induction ts with
    | nil => intro ps h; cases ps with
      | nil => rfl
      | cons => exact h.elim
    | cons t ts ih => intro ps h; cases ps with
      | nil => exact h.elim
      | cons p ps => simp [ih h.2]
  have hn := hl k
  match ps, hn, k with
  | [l1, l2, l3, l4, l5, l6, l7, l8, l9, l10, l11, l12], _, ⟨h1, h2, h3, h4, h5, h6, h7, h8, h9, h10, h11, h12, _⟩ =>
    obtain ⟨ty, rfl, hty⟩ := rd_int (d := d + 6) Try.underlying22 h1
    obtain ⟨id, rfl, hid⟩ := rd_int (d := d + 6) Try.underlying23 h2
    obtain ⟨dd, rfl, hdd⟩ := rd_int (d := d + 6) Try.underlying22 h3
    obtain ⟨r, hr, rfl⟩ := op31 (d := d + 2) h4
    obtain ⟨po, rfl, hpo⟩ := rd_int (d := d + 6) Try.underlying32 h5
    obtain ⟨up, rfl⟩ := rd_bool (d := d + 6) Try.underlying4 h6
    obtain ⟨sw, rfl, hsw⟩ := rd_int (d := d + 6) Try.underlying32 h7
    obtain ⟨ports, hports, rfl⟩ := op33 (d := d + 5) h8
    obtain ⟨edge, hedge, rfl⟩ := op33 (d := d + 5) h9
    obtain ⟨frame, hframe, rfl⟩ := op34 (d := d + 5) h10
    obtain ⟨helds, hhelds, rfl⟩ := op35 h11
    obtain ⟨code, rfl, hcode⟩ := rd_int (d := d + 6) Try.underlying32 h12
    obtain ⟨id, rfl, gid⟩ := nat_u32 hid
    obtain ⟨po, rfl, gpo⟩ := nat_u16 hpo
    obtain ⟨sw, rfl, gsw⟩ := nat_u16 hsw
    obtain ⟨code, rfl, gcode⟩ := nat_u16 hcode
    exact ⟨⟨ty, id, dd, r, po, up, sw, ports, edge, frame, helds, code⟩, ⟨in_i8 hty, gid, in_i8 hdd, hr, gpo, gsw, hports, hedge, hframe, hhelds, gcode⟩, rfl⟩
theorem pl37 : plainT Try.prog 9 37 = true := by kernel_rfl
end Go.Proofs.Ytjjenpdjmcmgbaa
namespace Go.Proofs.Ytjjenpdjmcmgbaa
open Go Ab
set_option linter.unusedSimpArgs false
set_option linter.unusedVariables false
set_option maxRecDepth 20000
def BL (l : List Nat) : Prop := ∀ b ∈ l, b < 256
theorem BL.app {a b : List Nat} (h : BL a) (g : BL b) : BL (a ++ b) := fun x hx => (List.mem_append.1 hx).elim (h x) (g x)
theorem BL.enc (x n : Nat) : BL (enc x n) := putB_lt _ _ _
theorem BL.flat {α : Type} (l : List α) (f : α → List Nat) (h : ∀ a, BL (f a)) : BL (l.flatMap f) := fun x hx => by
  obtain ⟨a, _, h2⟩ := List.mem_flatMap.1 hx
  exact h a x h2
theorem bl_A (a : Act) : BL (encA a) := (BL.enc _ _).app ((BL.enc _ _).app (BL.enc _ _))
theorem bl_L (l : List (List Act)) : BL (encL l) := (BL.enc _ _).app (BL.flat _ _ fun c => (BL.enc _ _).app (BL.flat _ _ bl_A))
theorem bl_M (w : Nat → Nat) : BL (encM w) := (BL.enc _ _).app (BL.flat _ _ fun f => by
  unfold encF
  split
  · intro x hx; cases hx
  · exact (BL.enc _ _).app (BL.enc _ _))
theorem bl_R (r : Ru) : BL (encR r) := (BL.enc _ _).app ((BL.enc _ _).app ((bl_M _).app (bl_L _)))
theorem bl_H (h : He) : BL (encH h) := (bl_R _).app ((BL.enc _ _).app (BL.enc _ _))
theorem bl_body (x : Ms) : BL (body x) := by
  have hP : ∀ l, BL (encP l) := fun l => (BL.enc _ _).app (BL.flat _ _ fun _ => BL.enc _ _)
  have hB : ∀ l, BL (encB l) := fun l => (BL.enc _ _).app (BL.flat _ _ fun _ => BL.enc _ _)
  have hH : ∀ l, BL (encHs l) := fun l => (BL.enc _ _).app (BL.flat _ _ bl_H)
  unfold body
  split
  · exact (BL.enc _ _).app ((hP _).app (hP _))
  split
  · exact (BL.enc _ _).app (bl_R _)
  split
  · exact (BL.enc _ _).app (hB _)
  split
  · exact (BL.enc _ _).app (hH _)
  split
  · exact (BL.enc _ _).app (BL.enc _ _)
  split
  · exact BL.enc _ _
  · intro x hx; cases hx
theorem whole_byt {x : Ms} (h : fits x = true) : Byt (whole x) := by
  refine ⟨?_, by have := (whole_all h).2.2; omega⟩
  have h1 := i8N_lt x.ty
  exact ((show BL [1, i8N x.ty] from fun b hb => by
    rcases List.mem_cons.1 hb with rfl | hb
    · omega
    · rw [List.mem_singleton.1 hb]; exact h1).app (BL.enc _ _)).app (BL.enc _ _) |>.app (bl_body x)
end Go.Proofs.Ytjjenpdjmcmgbaa
namespace Go.Proofs.Ytjjenpdjmcmgbaa
open Go Ab
set_option linter.unusedSimpArgs false
set_option linter.unusedVariables false
set_option maxRecDepth 20000
theorem eq123s (a : Act) (h : wfA a) : eqV Try.prog 123 (.agg (acC a)) (.agg (acC a)) = some true := by
  have sh : shp Try.prog 9 123 = some [.ti .i8, .ti .i8, .ti .u64] := by kernel_rfl
  have key : (Try.prog.keyTypeAt 8 123 && (!Try.prog.eqGuardType Try.prog.depth 123 && isAggT Try.prog 123)) = true := by kernel_rfl
  have h1 : (Lit.int .i8 a.d).wf = true := by have := h.1; simp [Lit.wf, IntKind.min, IntKind.max, IntKind.bits, IntKind.signed]; omega
  have h2 : (Lit.int .i8 a.f).wf = true := by have := h.2.1; simp [Lit.wf, IntKind.min, IntKind.max, IntKind.bits, IntKind.signed]; omega
  have h3 : (Lit.int .u64 (a.n : Int)).wf = true := by have := h.2.2; simp [Lit.wf, IntKind.min, IntKind.max, IntKind.bits, IntKind.signed]; omega
  have fit : fitV [.ti .i8, .ti .i8, .ti .u64] (acC a) [.int .i8 a.d, .int .i8 a.f, .int .u64 (a.n : Int)] :=
    ⟨⟨_, rfl, rfl, h1, rfl⟩, ⟨_, rfl, rfl, h2, rfl⟩, ⟨_, rfl, rfl, h3, rfl⟩, rfl, rfl⟩
  simp only [eqV, key, cond_true, litsV_fit sh fit]
  congr 1
  rw [litsEq_iff]
theorem eqN_s (n : Nat) (f : Nat → Int) : eqN n f f = true := by simp [eqN]
set_option maxHeartbeats 1000000 in
theorem ans28 (l : List Nat) (hl : l.length < lim) : Ans Try.prog 28 [poV l, poV l] (.bool true) := by
  refine Snd_of_W fol rfl rfl (by kernel_rfl) (by kernel_rfl) ?_
  have ln : ∀ M, lenV Try.prog M 33 (poV l) = some (.int .i64 (l.length : Int)) := fun M => by unfold poV; rw [lni33, List.length_map]
  have hlim : l.length < 281474976710656 := hl
  simp -implicitDefEqProofs only [sims.1, fx.1, keeps.1, tick_on, calleeK, extractV, oneV, faddrK, nonnil, b_shr, b_shl, fieldK, Nat.reduceAdd, Nat.reduceMul, Nat.reduceSub, Nat.reduceEqDiff, Nat.reduceLT, Nat.reduceLeDiff, Nat.reduceBEq, Nat.reduceBNe, reduceIte, Int.reduceEq, Int.reduceLT, Int.reduceLE, Int.reduceNe, Int.reduceToNat, ln]
  refine W_loopM (fun j : Nat => [(12, V.int .i64 (l.length : Int)), (0, poV l), (1, poV l), (13, V.int .i64 (j : Int))]) (fun j M => j ≤ l.length) (fun j => l.length + 1 - j) 0 (by kernel_rfl) (by omega) ?_
  rintro j M h1
  rcases Nat.lt_or_ge j l.length with hj | hj
  · have d1 : decide (j < l.length) = true := by simpa using hj
    have w1 := add1N j (by omega)
    have ia : ∀ {kk : IntKind}, iaddrS 1 (poV l) (.int kk (j : Int)) = some (.ip (poC l[j])) := fun {kk} => iaddrS_isl (by simp [hj])
    have at0 : (poC l[j])[0]? = some (.int .u16 (l[j] : Int)) := rfl
    simp -implicitDefEqProofs only [sims.1, fx.1, keeps.1, tick_on, calleeK, extractV, oneV, faddrK, nonnil, b_shr, b_shl, fieldK, Nat.reduceAdd, Nat.reduceMul, Nat.reduceSub, Nat.reduceEqDiff, Nat.reduceLT, Nat.reduceLeDiff, Nat.reduceBEq, Nat.reduceBNe, reduceIte, Int.reduceEq, Int.reduceLT, Int.reduceLE, Int.reduceNe, Int.reduceToNat, ltNat, d1]
    refine w_quiet ?_
    simp -implicitDefEqProofs only [sims.1, fx.1, keeps.1, tick_on, calleeK, extractV, oneV, faddrK, nonnil, b_shr, b_shl, fieldK, Nat.reduceAdd, Nat.reduceMul, Nat.reduceSub, Nat.reduceEqDiff, Nat.reduceLT, Nat.reduceLeDiff, Nat.reduceBEq, Nat.reduceBNe, reduceIte, Int.reduceEq, Int.reduceLT, Int.reduceLE, Int.reduceNe, Int.reduceToNat, ia, at0, w1]
    exact ⟨j + 1, by kernel_rfl, by omega, by omega⟩
  · have d1 : decide (j < l.length) = false := by simp; omega
    simp -implicitDefEqProofs only [sims.1, fx.1, keeps.1, tick_on, calleeK, extractV, oneV, faddrK, nonnil, b_shr, b_shl, fieldK, Nat.reduceAdd, Nat.reduceMul, Nat.reduceSub, Nat.reduceEqDiff, Nat.reduceLT, Nat.reduceLeDiff, Nat.reduceBEq, Nat.reduceBNe, reduceIte, Int.reduceEq, Int.reduceLT, Int.reduceLE, Int.reduceNe, Int.reduceToNat, ltNat, d1]
    exact ans_ret rfl
set_option maxHeartbeats 2000000 in
theorem ans62 (l : List (List Act)) (hl : wfL l) : Ans Try.prog 62 [cpsV l, cpsV l] (.bool true) := by
  refine Snd_of_W fol rfl rfl (by kernel_rfl) (by kernel_rfl) ?_
  have ln : ∀ M, lenV Try.prog M 29 (cpsV l) = some (.int .i64 (l.length : Int)) := fun M => by unfold cpsV; rw [lni29, List.length_map]
  have hlim : l.length < 281474976710656 := hl.1
  simp -implicitDefEqProofs only [sims.1, fx.1, keeps.1, tick_on, calleeK, extractV, oneV, faddrK, nonnil, b_shr, b_shl, fieldK, Nat.reduceAdd, Nat.reduceMul, Nat.reduceSub, Nat.reduceEqDiff, Nat.reduceLT, Nat.reduceLeDiff, Nat.reduceBEq, Nat.reduceBNe, reduceIte, Int.reduceEq, Int.reduceLT, Int.reduceLE, Int.reduceNe, Int.reduceToNat, ln]
  refine W_loopM (fun i : Nat => [(13, V.int .i64 (l.length : Int)), (0, cpsV l), (1, cpsV l), (14, V.int .i64 (i : Int))]) (fun i M => i ≤ l.length) (fun i => l.length + 1 - i) 0 (by kernel_rfl) (by omega) ?_
  rintro i M h1
  rcases Nat.lt_or_ge i l.length with hi | hi
  · have d1 : decide (i < l.length) = true := by simpa using hi
    have w1 := add1N i (by omega)
    have hc := hl.2 _ (List.getElem_mem hi)
    have hcl : l[i].length < 281474976710656 := hc.1
    have lnc : ∀ M, lenV Try.prog M 99 (cpV l[i]) = some (.int .i64 (l[i].length : Int)) := fun M => by unfold cpV; rw [lni99, List.length_map]
    have ia : ∀ {kk : IntKind}, iaddrS 1 (cpsV l) (.int kk (i : Int)) = some (.ip [cpV l[i]]) := fun {kk} => iaddrS_isl (by simp [hi])
    simp -implicitDefEqProofs only [sims.1, fx.1, keeps.1, tick_on, calleeK, extractV, oneV, faddrK, nonnil, b_shr, b_shl, fieldK, Nat.reduceAdd, Nat.reduceMul, Nat.reduceSub, Nat.reduceEqDiff, Nat.reduceLT, Nat.reduceLeDiff, Nat.reduceBEq, Nat.reduceBNe, reduceIte, Int.reduceEq, Int.reduceLT, Int.reduceLE, Int.reduceNe, Int.reduceToNat, ltNat, d1]
    refine w_quiet ?_
    simp -implicitDefEqProofs only [sims.1, fx.1, keeps.1, tick_on, calleeK, extractV, oneV, faddrK, nonnil, b_shr, b_shl, fieldK, Nat.reduceAdd, Nat.reduceMul, Nat.reduceSub, Nat.reduceEqDiff, Nat.reduceLT, Nat.reduceLeDiff, Nat.reduceBEq, Nat.reduceBNe, reduceIte, Int.reduceEq, Int.reduceLT, Int.reduceLE, Int.reduceNe, Int.reduceToNat, ia, lnc]
    refine W_loopM (fun j : Nat => [(32, V.int .i64 (l[i].length : Int)), (5, V.int .i64 (i : Int)), (33, V.int .i64 (j : Int)), (14, V.int .i64 (i : Int)), (13, V.int .i64 (l.length : Int)), (0, cpsV l), (1, cpsV l)]) (fun j M => j ≤ l[i].length) (fun j => l[i].length + 1 - j) 0 (by kernel_rfl) (by omega) ?_
    rintro j M g1
    rcases Nat.lt_or_ge j l[i].length with hj | hj
    · have d2 : decide (j < l[i].length) = true := by simpa using hj
      have w2 := add1N j (by omega)
      have ib : ∀ {kk : IntKind}, iaddrS 3 (cpV l[i]) (.int kk (j : Int)) = some (.ip (acC l[i][j])) := fun {kk} => iaddrS_isl (by simp [hj])
      have q := eq123s l[i][j] (hc.2 _ (List.getElem_mem hj))
      simp -implicitDefEqProofs only [sims.1, fx.1, keeps.1, tick_on, calleeK, extractV, oneV, faddrK, nonnil, b_shr, b_shl, fieldK, Nat.reduceAdd, Nat.reduceMul, Nat.reduceSub, Nat.reduceEqDiff, Nat.reduceLT, Nat.reduceLeDiff, Nat.reduceBEq, Nat.reduceBNe, reduceIte, Int.reduceEq, Int.reduceLT, Int.reduceLE, Int.reduceNe, Int.reduceToNat, ltNat, d2]
      refine w_quiet ?_
      simp -implicitDefEqProofs only [sims.1, fx.1, keeps.1, tick_on, calleeK, extractV, oneV, faddrK, nonnil, b_shr, b_shl, fieldK, Nat.reduceAdd, Nat.reduceMul, Nat.reduceSub, Nat.reduceEqDiff, Nat.reduceLT, Nat.reduceLeDiff, Nat.reduceBEq, Nat.reduceBNe, reduceIte, Int.reduceEq, Int.reduceLT, Int.reduceLE, Int.reduceNe, Int.reduceToNat, ia, ib, acp, q, w2]
      exact ⟨j + 1, by kernel_rfl, by omega, by omega⟩
    · have d2 : decide (j < l[i].length) = false := by simp; omega
      simp -implicitDefEqProofs only [sims.1, fx.1, keeps.1, tick_on, calleeK, extractV, oneV, faddrK, nonnil, b_shr, b_shl, fieldK, Nat.reduceAdd, Nat.reduceMul, Nat.reduceSub, Nat.reduceEqDiff, Nat.reduceLT, Nat.reduceLeDiff, Nat.reduceBEq, Nat.reduceBNe, reduceIte, Int.reduceEq, Int.reduceLT, Int.reduceLE, Int.reduceNe, Int.reduceToNat, ltNat, d2, w1]
      exact ⟨i + 1, by kernel_rfl, by omega, by omega⟩
  · have d1 : decide (i < l.length) = false := by simp; omega
    simp -implicitDefEqProofs only [sims.1, fx.1, keeps.1, tick_on, calleeK, extractV, oneV, faddrK, nonnil, b_shr, b_shl, fieldK, Nat.reduceAdd, Nat.reduceMul, Nat.reduceSub, Nat.reduceEqDiff, Nat.reduceLT, Nat.reduceLeDiff, Nat.reduceBEq, Nat.reduceBNe, reduceIte, Int.reduceEq, Int.reduceLT, Int.reduceLE, Int.reduceNe, Int.reduceToNat, ltNat, d1]
    exact ans_ret rfl
theorem ru0 (r : Ru) : (ruC r)[0]? = some (.int .i64 r.rank) := rfl
theorem ru1 (r : Ru) : partK true 22 (ruC r) 1 = some (.agg (mC r.w)) := rfl
theorem ru23 (r : Ru) : (ruC r)[23]? = some (cpsV r.l) := rfl
theorem ru24 (r : Ru) : (ruC r)[24]? = some (.int .u64 (r.ck : Int)) := rfl
set_option maxHeartbeats 2000000 in
theorem ans27 (r : Ru) (hr : wfR r) : Ans Try.prog 27 [.agg (ruC r), .agg (ruC r)] (.bool true) := by
  refine Snd_of_W fol rfl rfl (by kernel_rfl) (by kernel_rfl) ?_
  have q : eqV Try.prog 28 (.agg (mC r.w)) (.agg (mC r.w)) = some true := (eq28 hr.2.1 hr.2.1).trans (congrArg some (eqN_s 22 _))
  have nfl : nfs [cpsV r.l, cpsV r.l] = true := nfs_cons (nf_cps r.l) (nfs_cons (nf_cps r.l) rfl)
  simp -implicitDefEqProofs only [sims.1, fx.1, keeps.1, tick_on, calleeK, extractV, oneV, faddrK, nonnil, b_shr, b_shl, fieldK, Nat.reduceAdd, Nat.reduceMul, Nat.reduceSub, Nat.reduceEqDiff, Nat.reduceLT, Nat.reduceLeDiff, Nat.reduceBEq, Nat.reduceBNe, reduceIte, Int.reduceEq, Int.reduceLT, Int.reduceLE, Int.reduceNe, Int.reduceToNat, at_mid, at_mid2, ru0, ru1, ru23, ru24, q]
  refine callD_ans (ans62 r.l hr.2.2.1) en62 nfl rfl ?_
  simp -implicitDefEqProofs only [sims.1, fx.1, keeps.1, tick_on, calleeK, extractV, oneV, faddrK, nonnil, b_shr, b_shl, fieldK, Nat.reduceAdd, Nat.reduceMul, Nat.reduceSub, Nat.reduceEqDiff, Nat.reduceLT, Nat.reduceLeDiff, Nat.reduceBEq, Nat.reduceBNe, reduceIte, Int.reduceEq, Int.reduceLT, Int.reduceLE, Int.reduceNe, Int.reduceToNat]
  exact ans_ret rfl
theorem nf_ru (r : Ru) : nf (.agg (ruC r)) = true := by
  simp only [nf, ruC, nfs, nfs_app, mC, nfs_cl, nf_cps, Bool.and_self]
set_option maxHeartbeats 2000000 in
theorem ans29 (l : List He) (hl : l.length < lim ∧ ∀ h ∈ l, wfH h) : Ans Try.prog 29 [hesV l, hesV l] (.bool true) := by
  refine Snd_of_W fol rfl rfl (by kernel_rfl) (by kernel_rfl) ?_
  have ln : ∀ M, lenV Try.prog M 35 (hesV l) = some (.int .i64 (l.length : Int)) := fun M => by unfold hesV; rw [lni35, List.length_map]
  have hlim : l.length < 281474976710656 := hl.1
  simp -implicitDefEqProofs only [sims.1, fx.1, keeps.1, tick_on, calleeK, extractV, oneV, faddrK, nonnil, b_shr, b_shl, fieldK, Nat.reduceAdd, Nat.reduceMul, Nat.reduceSub, Nat.reduceEqDiff, Nat.reduceLT, Nat.reduceLeDiff, Nat.reduceBEq, Nat.reduceBNe, reduceIte, Int.reduceEq, Int.reduceLT, Int.reduceLE, Int.reduceNe, Int.reduceToNat, ln]
  refine W_loopM (fun j : Nat => [(12, V.int .i64 (l.length : Int)), (0, hesV l), (1, hesV l), (13, V.int .i64 (j : Int))]) (fun j M => j ≤ l.length) (fun j => l.length + 1 - j) 0 (by kernel_rfl) (by omega) ?_
  rintro j M h1
  rcases Nat.lt_or_ge j l.length with hj | hj
  · have d1 : decide (j < l.length) = true := by simpa using hj
    have w1 := add1N j (by omega)
    have hh := hl.2 _ (List.getElem_mem hj)
    have ia : ∀ {kk : IntKind}, iaddrS 27 (hesV l) (.int kk (j : Int)) = some (.ip (heC l[j])) := fun {kk} => iaddrS_isl (by simp [hj])
    generalize l[j] = h at hh ia
    have hel : (heC h).length = 27 := rfl
    have p0 : partK true 25 (heC h) 0 = some (.agg (ruC h.r)) := rfl
    have p0' : partK true 25 (List.drop 0 (heC h)) 0 = some (.agg (ruC h.r)) := rfl
    have p1 : partK true 2 (List.drop 25 (heC h)) 0 = some (.agg [.int .u64 (h.p : Int), .int .u64 (h.b : Int)]) := rfl
    have q : eqV Try.prog 57 (.agg [.int .u64 (h.p : Int), .int .u64 (h.b : Int)]) (.agg [.int .u64 (h.p : Int), .int .u64 (h.b : Int)]) = some true := by
      have e : [V.int .u64 (h.p : Int), .int .u64 (h.b : Int)] = cl .u64 2 fun i => if i = 0 then (h.p : Int) else (h.b : Int) := rfl
      rw [e, ea57 _ _ ?_ ?_, eqN_s]
      all_goals
        have h1 := hh.2.1
        have h2 := hh.2.2
        intro i hi
        match i, hi with
        | 0, _ => simp [IntKind.min, IntKind.max, IntKind.bits, IntKind.signed, Lit.wf]; omega
        | 1, _ => simp [IntKind.min, IntKind.max, IntKind.bits, IntKind.signed, Lit.wf]; omega
    simp -implicitDefEqProofs only [sims.1, fx.1, keeps.1, tick_on, calleeK, extractV, oneV, faddrK, nonnil, b_shr, b_shl, fieldK, Nat.reduceAdd, Nat.reduceMul, Nat.reduceSub, Nat.reduceEqDiff, Nat.reduceLT, Nat.reduceLeDiff, Nat.reduceBEq, Nat.reduceBNe, reduceIte, Int.reduceEq, Int.reduceLT, Int.reduceLE, Int.reduceNe, Int.reduceToNat, ltNat, d1]
    refine w_quiet ?_
    simp -implicitDefEqProofs only [sims.1, fx.1, keeps.1, tick_on, calleeK, extractV, oneV, faddrK, nonnil, b_shr, b_shl, fieldK, Nat.reduceAdd, Nat.reduceMul, Nat.reduceSub, Nat.reduceEqDiff, Nat.reduceLT, Nat.reduceLeDiff, Nat.reduceBEq, Nat.reduceBNe, reduceIte, Int.reduceEq, Int.reduceLT, Int.reduceLE, Int.reduceNe, Int.reduceToNat, ia, hel, p0, p0', p1, q, List.drop_zero]
    refine callQ_ans (ans27 h.r hh.1) en27 (nfs_cons (nf_ru h.r) (nfs_cons (nf_ru h.r) rfl)) rfl ?_
    simp -implicitDefEqProofs only [sims.1, fx.1, keeps.1, tick_on, calleeK, extractV, oneV, faddrK, nonnil, b_shr, b_shl, fieldK, Nat.reduceAdd, Nat.reduceMul, Nat.reduceSub, Nat.reduceEqDiff, Nat.reduceLT, Nat.reduceLeDiff, Nat.reduceBEq, Nat.reduceBNe, reduceIte, Int.reduceEq, Int.reduceLT, Int.reduceLE, Int.reduceNe, Int.reduceToNat, ia, hel, p0, p0', p1, q, w1]
    exact ⟨j + 1, by kernel_rfl, by omega, by omega⟩
  · have d1 : decide (j < l.length) = false := by simp; omega
    simp -implicitDefEqProofs only [sims.1, fx.1, keeps.1, tick_on, calleeK, extractV, oneV, faddrK, nonnil, b_shr, b_shl, fieldK, Nat.reduceAdd, Nat.reduceMul, Nat.reduceSub, Nat.reduceEqDiff, Nat.reduceLT, Nat.reduceLeDiff, Nat.reduceBEq, Nat.reduceBNe, reduceIte, Int.reduceEq, Int.reduceLT, Int.reduceLE, Int.reduceNe, Int.reduceToNat, ltNat, d1]
    exact ans_ret rfl
theorem runOps_L {l0 l : List Oper} {env : Env} {m : Mem} {K : Env → Mem → Prop} {Kp : V → Mem → Prop} (hl : l0 = l) (h : runOps Try.prog l.toArray l env m K Kp) : runOps Try.prog l0.toArray l0 env m K Kp := hl ▸ h
theorem mg0 (x : Ms) : (msC x)[0]? = some (.int .i8 x.ty) := rfl
theorem mg1 (x : Ms) : (msC x)[1]? = some (.int .u32 (x.id : Int)) := rfl
theorem mg2 (x : Ms) : (msC x)[2]? = some (.int .i8 x.dd) := rfl
theorem mg3 (x : Ms) : partK true 25 (msC x) 3 = some (.agg (ruC x.r)) := rfl
theorem mg28 (x : Ms) : (msC x)[28]? = some (.int .u16 (x.port : Int)) := rfl
theorem mg29 (x : Ms) : (msC x)[29]? = some (.bool x.up) := rfl
theorem mg30 (x : Ms) : (msC x)[30]? = some (.int .u16 (x.sw : Int)) := rfl
theorem mg31 (x : Ms) : (msC x)[31]? = some (poV x.ports) := rfl
theorem mg32 (x : Ms) : (msC x)[32]? = some (poV x.edge) := rfl
theorem mg33 (x : Ms) : (msC x)[33]? = some (byV x.frame) := rfl
theorem mg34 (x : Ms) : (msC x)[34]? = some (hesV x.helds) := rfl
theorem mg35 (x : Ms) : (msC x)[35]? = some (.int .u16 (x.code : Int)) := rfl
set_option maxHeartbeats 4000000 in
theorem ans14 (x : Ms) (hx : wfM x) : Ans Try.prog 14 [.agg (msC x), .agg (msC x)] (.bool true) := by
  refine Snd_of_W fol rfl rfl (by kernel_rfl) (by kernel_rfl) ?_
  have e9 : ∀ a : ByteArray, (a.toList == a.toList) = true := fun a => by simp
  have beq : binV Try.prog .eql 4 (.bool x.up) (.bool x.up) = some (.bool true) := by cases x.up <;> rfl
  simp -implicitDefEqProofs only [sims.1, fx.1, keeps.1, tick_on, calleeK, extractV, oneV, faddrK, nonnil, b_shr, b_shl, fieldK, Nat.reduceAdd, Nat.reduceMul, Nat.reduceSub, Nat.reduceEqDiff, Nat.reduceLT, Nat.reduceLeDiff, Nat.reduceBEq, Nat.reduceBNe, reduceIte, Int.reduceEq, Int.reduceLT, Int.reduceLE, Int.reduceNe, Int.reduceToNat, at_mid, at_mid2]
  refine runOps_L (by simp only [List.append_eq, List.cons_append, List.nil_append]; rfl) ?_
  simp -implicitDefEqProofs only [sims.1, fx.1, keeps.1, tick_on, calleeK, extractV, oneV, faddrK, nonnil, b_shr, b_shl, fieldK, Nat.reduceAdd, Nat.reduceMul, Nat.reduceSub, Nat.reduceEqDiff, Nat.reduceLT, Nat.reduceLeDiff, Nat.reduceBEq, Nat.reduceBNe, reduceIte, Int.reduceEq, Int.reduceLT, Int.reduceLE, Int.reduceNe, Int.reduceToNat, at_mid, at_mid2, mg0, mg1, mg2, mg3]
  refine callD_ans (ans27 x.r hx.r) en27 (nfs_cons (nf_ru x.r) (nfs_cons (nf_ru x.r) rfl)) rfl ?_
  simp -implicitDefEqProofs only [sims.1, fx.1, keeps.1, tick_on, calleeK, extractV, oneV, faddrK, nonnil, b_shr, b_shl, fieldK, Nat.reduceAdd, Nat.reduceMul, Nat.reduceSub, Nat.reduceEqDiff, Nat.reduceLT, Nat.reduceLeDiff, Nat.reduceBEq, Nat.reduceBNe, reduceIte, Int.reduceEq, Int.reduceLT, Int.reduceLE, Int.reduceNe, Int.reduceToNat, at_mid, at_mid2, mg28, mg29, mg30, mg31, beq]
  refine callD_ans (ans28 x.ports hx.ports.1) en28 (nfs_cons (nf_po _) (nfs_cons (nf_po _) rfl)) rfl ?_
  simp -implicitDefEqProofs only [sims.1, fx.1, keeps.1, tick_on, calleeK, extractV, oneV, faddrK, nonnil, b_shr, b_shl, fieldK, Nat.reduceAdd, Nat.reduceMul, Nat.reduceSub, Nat.reduceEqDiff, Nat.reduceLT, Nat.reduceLeDiff, Nat.reduceBEq, Nat.reduceBNe, reduceIte, Int.reduceEq, Int.reduceLT, Int.reduceLE, Int.reduceNe, Int.reduceToNat, at_mid, at_mid2, mg32]
  refine callD_ans (ans28 x.edge hx.edge.1) en28 (nfs_cons (nf_po _) (nfs_cons (nf_po _) rfl)) rfl ?_
  simp -implicitDefEqProofs only [sims.1, fx.1, keeps.1, tick_on, calleeK, extractV, oneV, faddrK, nonnil, b_shr, b_shl, fieldK, Nat.reduceAdd, Nat.reduceMul, Nat.reduceSub, Nat.reduceEqDiff, Nat.reduceLT, Nat.reduceLeDiff, Nat.reduceBEq, Nat.reduceBNe, reduceIte, Int.reduceEq, Int.reduceLT, Int.reduceLE, Int.reduceNe, Int.reduceToNat, at_mid, at_mid2, mg33, strByM, strEq, e9, mg34]
  refine callD_ans (ans29 x.helds hx.helds) en29 (nfs_cons (nf_hes _) (nfs_cons (nf_hes _) rfl)) rfl ?_
  simp -implicitDefEqProofs only [sims.1, fx.1, keeps.1, tick_on, calleeK, extractV, oneV, faddrK, nonnil, b_shr, b_shl, fieldK, Nat.reduceAdd, Nat.reduceMul, Nat.reduceSub, Nat.reduceEqDiff, Nat.reduceLT, Nat.reduceLeDiff, Nat.reduceBEq, Nat.reduceBNe, reduceIte, Int.reduceEq, Int.reduceLT, Int.reduceLE, Int.reduceNe, Int.reduceToNat, at_mid, at_mid2, mg35]
  exact ans_ret rfl
end Go.Proofs.Ytjjenpdjmcmgbaa
