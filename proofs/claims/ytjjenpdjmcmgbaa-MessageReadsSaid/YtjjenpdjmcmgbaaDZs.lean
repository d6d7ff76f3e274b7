/- A message's bytes, by the reference. No condition. -/
import Derived.Test.YtjjenpdjmcmgbaaDZr
namespace Go.Proofs.Ytjjenpdjmcmgbaa
open Go Ab
set_option linter.unusedSimpArgs false
set_option linter.unusedVariables false
set_option maxRecDepth 20000
theorem flat1 : ∀ {l : List Nat}, (∀ b ∈ l, b < 256) → (l.flatMap fun x => enc x 1) = l
  | [], _ => rfl
  | a :: r, h => by
    rw [List.flatMap_cons, enc1 _ (h a (by simp)), flat1 fun b hb => h b (by simp [hb])]
    rfl
def loop16 (x : Ms) (s : Nat × Nat) : List (Nat × V) := [(4, .int .i64 (s.1 : Int)), (1, .ptr 0 0), (3, buf s.2 (enc x.port 2 ++ (enc x.helds.length 2 ++ (x.helds.take s.1).flatMap encH)))]
def QW16 (x : Ms) (r : CR) : Prop := ∃ m1 k, r = .ret (buf k (whole x)) m1 ∧ Bf m1 k (whole x)
theorem h0at (h : He) : partK true 25 (heC h) 0 = some (.agg (ruC h.r)) := rfl
theorem h25 (h : He) : (List.drop 25 (heC h))[0]? = some (.int .u64 (h.p : Int)) := rfl
theorem h26 (h : He) : (List.drop 26 (heC h))[0]? = some (.int .u64 (h.b : Int)) := rfl
theorem hel (h : He) : (heC h).length = 27 := rfl
theorem h0at' (h : He) : partK true 25 (List.drop 0 (heC h)) 0 = some (.agg (ruC h.r)) := rfl
set_option maxHeartbeats 16000000 in
theorem snd16 {x : Ms} (hx : wfM x) (hf : Fair x) (hb : (body x).length + 2000 ≤ bnd) : Snd Try.prog 16 [.agg (msC x)] [] (QW16 x) := by
  refine Snd_of_W fol rfl rfl (by kernel_rfl) (by kernel_rfl) ?_
  have q0 : (msC x)[0]? = some (.int .i8 x.ty) := rfl
  have q1 : (msC x)[1]? = some (.int .u32 (x.id : Int)) := rfl
  have q2 : (msC x)[2]? = some (.int .i8 x.dd) := rfl
  have q3 : partK true 25 (msC x) 3 = some (.agg (ruC x.r)) := rfl
  have q28 : (msC x)[28]? = some (.int .u16 (x.port : Int)) := rfl
  have q29 : (msC x)[29]? = some (.bool x.up) := rfl
  have q30 : (msC x)[30]? = some (.int .u16 (x.sw : Int)) := rfl
  have q31 : (msC x)[31]? = some (poV x.ports) := rfl
  have q32 : (msC x)[32]? = some (poV x.edge) := rfl
  have q33 : (msC x)[33]? = some (byV x.frame) := rfl
  have q34 : (msC x)[34]? = some (hesV x.helds) := rfl
  have q35 : (msC x)[35]? = some (.int .u16 (x.code : Int)) := rfl
  have wp := wrapU x.port (by have := hx.port; omega)
  have ws := wrapU x.sw (by have := hx.sw; omega)
  have wc := wrapU x.code (by have := hx.code; omega)
  have wi := wrapU x.id (by have := hx.id; omega)
  have wfl := wrapU x.frame.length (by have := hx.frame.1; unfold lim at this; omega)
  have whl := wrapU x.helds.length (by have := hx.helds.1; unfold lim at this; omega)
  have ln34 : ∀ M, lenV Try.prog M 34 (byV x.frame) = some (.int .i64 (x.frame.length : Int)) := fun M => by unfold byV; rw [lni34, List.length_map]
  have ln35 : ∀ M, lenV Try.prog M 35 (hesV x.helds) = some (.int .i64 (x.helds.length : Int)) := fun M => by unfold hesV; rw [lni35, List.length_map]
  have ev : ∀ env, evO env (.const (.slice none 0 0)) = buf 0 [] := fun _ => rfl
  have n0 : ∀ M, Bf M 0 [] := fun M h => absurd rfl h
  have g0 : ([B.var 37 (msC x)] : Mem)[0]? = some (.var 37 (msC x)) := rfl
  have i8 := i8u8 x.ty
  have i8d := i8u8 x.dd
  have id256 := i8N_lt x.dd
  have a8 : ∀ n : Nat, n ≤ bnd → IntKind.i64.wrap ((n : Int) + 8) = ((n + 8 : Nat) : Int) := fun n h => by unfold bnd at h; rw [IntKind.wrap_i64]; omega
  have w8 := wrapU ((body x).length + 8) (by unfold bnd at hb; omega)
  have a8 := a8 (body x).length (by omega)
  have hb0 := hb
  cases e4 : decide (x.ty = 4)
  rotate_left
  · have ht : x.ty = 4 := of_decide_eq_true e4
    have hB : body x = enc x.sw 2 ++ (encP x.ports ++ encP x.edge) := by unfold body; rw [if_pos ht]
    rw [hB] at hb
    simp only [List.length_append, enc_len] at hb
    simp -implicitDefEqProofs only [sims.1, fx.1, keeps.1, tick_on, calleeK, faddrK, Nat.reduceEqDiff, ev, q0, q30, ws, e4]
    refine callD_p (snd32 (n := 2) (n0 _) (by omega) (by omega) (by decide)) en32 ?_
    intro k1 m1 b1 d1 f1
    have g1 := d1.var (n0 _) g0
    simp -implicitDefEqProofs only [sims.1, fx.1, keeps.1, tick_on, calleeK, faddrK, Nat.reduceEqDiff, q31, g1]
    refine callD_p (snd33 b1 hx.ports (by simp only [enc_len]; omega)) en33 ?_
    intro k2 m2 b2 d2 f2
    have g2 := d2.var b1 g1
    simp -implicitDefEqProofs only [sims.1, fx.1, keeps.1, tick_on, calleeK, faddrK, Nat.reduceEqDiff, q32, g2]
    refine callD_p (snd33 b2 hx.edge (by simp only [List.length_append, enc_len]; omega)) en33 ?_
    intro k3 m3 b3 d3 f3
    have g3 := d3.var b2 g2
    try simp only [List.nil_append] at b3 ⊢
    have hbody : enc x.sw 2 ++ encP x.ports ++ encP x.edge = body x := by rw [hB]; simp only [List.append_assoc]
    rw [hbody] at b3 ⊢
    simp -implicitDefEqProofs only [sims.1, fx.1, keeps.1, tick_on, calleeK, faddrK, Nat.reduceEqDiff, q0, i8, g3, bs34t, len_buf, a8, w8]
    have cR : Bf (m3 ++ [rowB [1, i8N x.ty]]) m3.length [1, i8N x.ty] := fun _ => by simp
    refine callD_p (l := [1, i8N x.ty]) (k := m3.length) (snd32 (n := 2) (x := (body x).length + 8) cR (by omega) (by omega) (by simp [bnd])) en32 ?_
    intro u1 M1 c1 d1 f1
    have gm : (m3 ++ [rowB [1, i8N x.ty]])[0]? = some (.var 37 (msC x)) := by rw [List.getElem?_append_left (List.getElem?_eq_some_iff.1 g3).1]; exact g3
    have gM1 := d1.var cR gm
    have bM0 : Bf (m3 ++ [rowB [1, i8N x.ty]]) k3 (body x) := b3.app _
    have bM1 : Bf M1 k3 (body x) := fun hl => d1.2 _ _ (fun _ e => by have := (List.getElem?_eq_some_iff.1 (b3 hl)).1; omega) (bM0 hl)
    simp -implicitDefEqProofs only [sims.1, fx.1, keeps.1, tick_on, calleeK, faddrK, Nat.reduceEqDiff, q1, wi, gM1]
    refine callD_p (snd32 (n := 4) (x := x.id) c1 (by omega) (by omega) (by simp [enc_len, bnd])) en32 ?_
    intro u2 M2 c2 d2 f2
    have bM2 : Bf M2 k3 (body x) := fun hl => d2.2 _ _ (fun hne e => by
        have h9 := (List.getElem?_eq_some_iff.1 (b3 hl)).1
        rcases f1 with f1 | f1
        · simp at f1; omega
        · have := f1.1; omega) (bM1 hl)
    have hhd : (1 :: i8N x.ty :: enc ((body x).length + 8) 2) ++ enc x.id 4 = head x := rfl
    rw [hhd] at c2 ⊢
    obtain ⟨m', k', x1, x2, _, _, _⟩ := apL (x := buf k3 (body x)) (new := body x) (cont_buf bM2) c2 (by simp only [head, List.length_append, List.length_cons, List.length_nil, enc_len]; omega)
    simp -implicitDefEqProofs only [sims.1, fx.1, keeps.1, tick_on, Nat.reduceEqDiff, x1]
    exact ⟨m', k', rfl, x2⟩
  cases e5 : decide (x.ty = 5)
  rotate_left
  · have ht : x.ty = 5 := of_decide_eq_true e5
    have hB : body x = enc (i8N x.dd) 1 ++ encR x.r := by unfold body; rw [if_neg (by omega), if_pos ht]
    rw [hB] at hb
    simp only [List.length_append, enc_len] at hb
    simp -implicitDefEqProofs only [sims.1, fx.1, keeps.1, tick_on, faddrK, Nat.reduceEqDiff, ev, q0, q2, i8d, e4, e5, bs34]
    obtain ⟨m1, k1, x1, b1, d1, _, _⟩ := apL (m := [B.var 37 (msC x)] ++ [rowB [i8N x.dd]]) (new := [i8N x.dd]) (x := .sl 1 1 0 1) (show contV _ 1 (.sl 1 1 0 [i8N x.dd].length) = _ from cont_r (by simp)) (n0 _) (by simp [bnd])
    have x1 : appendA Try.prog 34 34 (buf 0 []) (.sl 1 1 0 1) [B.var 37 (msC x), rowB [i8N x.dd]] = some (buf k1 ([] ++ [i8N x.dd]), m1) := x1
    rw [x1]
    have g1 := d1.var (n0 _) (show ([B.var 37 (msC x)] ++ [rowB [i8N x.dd]] : Mem)[0]? = some (.var 37 (msC x)) from rfl)
    simp -implicitDefEqProofs only [sims.1, fx.1, keeps.1, tick_on, calleeK, faddrK, Nat.reduceEqDiff, q3, g1]
    refine callD_p (snd34 b1 hx.r (hf.1 ht) (by simp only [List.length_cons, List.length_nil]; omega)) en34 ?_
    intro k2 m2 b2 d2 f2
    have g2 := d2.var b1 g1
    try simp only [List.nil_append] at b2 ⊢
    have hbody : [i8N x.dd] ++ encR x.r = body x := by rw [hB, enc1 _ id256]
    rw [hbody] at b2 ⊢
    simp -implicitDefEqProofs only [sims.1, fx.1, keeps.1, tick_on, calleeK, faddrK, Nat.reduceEqDiff, q0, i8, g2, bs34t, len_buf, a8, w8]
    have cR : Bf (m2 ++ [rowB [1, i8N x.ty]]) m2.length [1, i8N x.ty] := fun _ => by simp
    refine callD_p (l := [1, i8N x.ty]) (k := m2.length) (snd32 (n := 2) (x := (body x).length + 8) cR (by omega) (by omega) (by simp [bnd])) en32 ?_
    intro u1 M1 c1 d1 f1
    have gm : (m2 ++ [rowB [1, i8N x.ty]])[0]? = some (.var 37 (msC x)) := by rw [List.getElem?_append_left (List.getElem?_eq_some_iff.1 g2).1]; exact g2
    have gM1 := d1.var cR gm
    have bM0 : Bf (m2 ++ [rowB [1, i8N x.ty]]) k2 (body x) := b2.app _
    have bM1 : Bf M1 k2 (body x) := fun hl => d1.2 _ _ (fun _ e => by have := (List.getElem?_eq_some_iff.1 (b2 hl)).1; omega) (bM0 hl)
    simp -implicitDefEqProofs only [sims.1, fx.1, keeps.1, tick_on, calleeK, faddrK, Nat.reduceEqDiff, q1, wi, gM1]
    refine callD_p (snd32 (n := 4) (x := x.id) c1 (by omega) (by omega) (by simp [enc_len, bnd])) en32 ?_
    intro u2 M2 c2 d2 f2
    have bM2 : Bf M2 k2 (body x) := fun hl => d2.2 _ _ (fun hne e => by
        have h9 := (List.getElem?_eq_some_iff.1 (b2 hl)).1
        rcases f1 with f1 | f1
        · simp at f1; omega
        · have := f1.1; omega) (bM1 hl)
    have hhd : (1 :: i8N x.ty :: enc ((body x).length + 8) 2) ++ enc x.id 4 = head x := rfl
    rw [hhd] at c2 ⊢
    obtain ⟨m', k', x1, x2, _, _, _⟩ := apL (x := buf k2 (body x)) (new := body x) (cont_buf bM2) c2 (by simp only [head, List.length_append, List.length_cons, List.length_nil, enc_len]; omega)
    simp -implicitDefEqProofs only [sims.1, fx.1, keeps.1, tick_on, Nat.reduceEqDiff, x1]
    exact ⟨m', k', rfl, x2⟩
  cases e6 : decide (x.ty = 6)
  rotate_left
  · have ht : x.ty = 6 := of_decide_eq_true e6
    have hB : body x = enc x.port 2 ++ encB x.frame := by unfold body; rw [if_neg (by omega), if_neg (by omega), if_pos (by omega)]
    rw [hB] at hb
    simp only [List.length_append, encB, flat1 hx.frame.2, enc_len] at hb
    simp -implicitDefEqProofs only [sims.1, fx.1, keeps.1, tick_on, calleeK, faddrK, Nat.reduceEqDiff, ev, q0, q28, wp, e4, e5, e6]
    refine callD_p (snd32 (n := 2) (n0 _) (by omega) (by omega) (by decide)) en32 ?_
    intro k1 m1 b1 d1 f1
    have g1 := d1.var (n0 _) g0
    simp -implicitDefEqProofs only [sims.1, fx.1, keeps.1, tick_on, calleeK, faddrK, Nat.reduceEqDiff, q33, wfl, ln34, g1]
    refine callD_p (snd32 (n := 2) b1 (by omega) (by omega) (by simp [enc_len, bnd])) en32 ?_
    intro k2 m2 b2 d2 f2
    have g2 := d2.var b1 g1
    simp -implicitDefEqProofs only [sims.1, fx.1, keeps.1, tick_on, faddrK, Nat.reduceEqDiff, q33, g2]
    obtain ⟨m3, k3, x3, b3, d3, _, _⟩ := apL (x := byV x.frame) (new := x.frame) cont_isl b2 (by simp only [List.length_append, enc_len]; omega)
    rw [x3]
    have g3 := d3.var b2 g2
    try simp only [List.nil_append] at b3 ⊢
    have hbody : enc x.port 2 ++ enc x.frame.length 2 ++ x.frame = body x := by rw [hB, encB, flat1 hx.frame.2]; simp only [List.append_assoc]
    rw [hbody] at b3 ⊢
    simp -implicitDefEqProofs only [sims.1, fx.1, keeps.1, tick_on, calleeK, faddrK, Nat.reduceEqDiff, q0, i8, g3, bs34t, len_buf, a8, w8]
    have cR : Bf (m3 ++ [rowB [1, i8N x.ty]]) m3.length [1, i8N x.ty] := fun _ => by simp
    refine callD_p (l := [1, i8N x.ty]) (k := m3.length) (snd32 (n := 2) (x := (body x).length + 8) cR (by omega) (by omega) (by simp [bnd])) en32 ?_
    intro u1 M1 c1 d1 f1
    have gm : (m3 ++ [rowB [1, i8N x.ty]])[0]? = some (.var 37 (msC x)) := by rw [List.getElem?_append_left (List.getElem?_eq_some_iff.1 g3).1]; exact g3
    have gM1 := d1.var cR gm
    have bM0 : Bf (m3 ++ [rowB [1, i8N x.ty]]) k3 (body x) := b3.app _
    have bM1 : Bf M1 k3 (body x) := fun hl => d1.2 _ _ (fun _ e => by have := (List.getElem?_eq_some_iff.1 (b3 hl)).1; omega) (bM0 hl)
    simp -implicitDefEqProofs only [sims.1, fx.1, keeps.1, tick_on, calleeK, faddrK, Nat.reduceEqDiff, q1, wi, gM1]
    refine callD_p (snd32 (n := 4) (x := x.id) c1 (by omega) (by omega) (by simp [enc_len, bnd])) en32 ?_
    intro u2 M2 c2 d2 f2
    have bM2 : Bf M2 k3 (body x) := fun hl => d2.2 _ _ (fun hne e => by
        have h9 := (List.getElem?_eq_some_iff.1 (b3 hl)).1
        rcases f1 with f1 | f1
        · simp at f1; omega
        · have := f1.1; omega) (bM1 hl)
    have hhd : (1 :: i8N x.ty :: enc ((body x).length + 8) 2) ++ enc x.id 4 = head x := rfl
    rw [hhd] at c2 ⊢
    obtain ⟨m', k', x1, x2, _, _, _⟩ := apL (x := buf k3 (body x)) (new := body x) (cont_buf bM2) c2 (by simp only [head, List.length_append, List.length_cons, List.length_nil, enc_len]; omega)
    simp -implicitDefEqProofs only [sims.1, fx.1, keeps.1, tick_on, Nat.reduceEqDiff, x1]
    exact ⟨m', k', rfl, x2⟩
  cases e7 : decide (x.ty = 7)
  rotate_left
  · have ht : x.ty = 7 := of_decide_eq_true e7
    have hB : body x = enc x.port 2 ++ encB x.frame := by unfold body; rw [if_neg (by omega), if_neg (by omega), if_pos (by omega)]
    rw [hB] at hb
    simp only [List.length_append, encB, flat1 hx.frame.2, enc_len] at hb
    simp -implicitDefEqProofs only [sims.1, fx.1, keeps.1, tick_on, calleeK, faddrK, Nat.reduceEqDiff, ev, q0, q28, wp, e4, e5, e6, e7]
    refine callD_p (snd32 (n := 2) (n0 _) (by omega) (by omega) (by decide)) en32 ?_
    intro k1 m1 b1 d1 f1
    have g1 := d1.var (n0 _) g0
    simp -implicitDefEqProofs only [sims.1, fx.1, keeps.1, tick_on, calleeK, faddrK, Nat.reduceEqDiff, q33, wfl, ln34, g1]
    refine callD_p (snd32 (n := 2) b1 (by omega) (by omega) (by simp [enc_len, bnd])) en32 ?_
    intro k2 m2 b2 d2 f2
    have g2 := d2.var b1 g1
    simp -implicitDefEqProofs only [sims.1, fx.1, keeps.1, tick_on, faddrK, Nat.reduceEqDiff, q33, g2]
    obtain ⟨m3, k3, x3, b3, d3, _, _⟩ := apL (x := byV x.frame) (new := x.frame) cont_isl b2 (by simp only [List.length_append, enc_len]; omega)
    rw [x3]
    have g3 := d3.var b2 g2
    try simp only [List.nil_append] at b3 ⊢
    have hbody : enc x.port 2 ++ enc x.frame.length 2 ++ x.frame = body x := by rw [hB, encB, flat1 hx.frame.2]; simp only [List.append_assoc]
    rw [hbody] at b3 ⊢
    simp -implicitDefEqProofs only [sims.1, fx.1, keeps.1, tick_on, calleeK, faddrK, Nat.reduceEqDiff, q0, i8, g3, bs34t, len_buf, a8, w8]
    have cR : Bf (m3 ++ [rowB [1, i8N x.ty]]) m3.length [1, i8N x.ty] := fun _ => by simp
    refine callD_p (l := [1, i8N x.ty]) (k := m3.length) (snd32 (n := 2) (x := (body x).length + 8) cR (by omega) (by omega) (by simp [bnd])) en32 ?_
    intro u1 M1 c1 d1 f1
    have gm : (m3 ++ [rowB [1, i8N x.ty]])[0]? = some (.var 37 (msC x)) := by rw [List.getElem?_append_left (List.getElem?_eq_some_iff.1 g3).1]; exact g3
    have gM1 := d1.var cR gm
    have bM0 : Bf (m3 ++ [rowB [1, i8N x.ty]]) k3 (body x) := b3.app _
    have bM1 : Bf M1 k3 (body x) := fun hl => d1.2 _ _ (fun _ e => by have := (List.getElem?_eq_some_iff.1 (b3 hl)).1; omega) (bM0 hl)
    simp -implicitDefEqProofs only [sims.1, fx.1, keeps.1, tick_on, calleeK, faddrK, Nat.reduceEqDiff, q1, wi, gM1]
    refine callD_p (snd32 (n := 4) (x := x.id) c1 (by omega) (by omega) (by simp [enc_len, bnd])) en32 ?_
    intro u2 M2 c2 d2 f2
    have bM2 : Bf M2 k3 (body x) := fun hl => d2.2 _ _ (fun hne e => by
        have h9 := (List.getElem?_eq_some_iff.1 (b3 hl)).1
        rcases f1 with f1 | f1
        · simp at f1; omega
        · have := f1.1; omega) (bM1 hl)
    have hhd : (1 :: i8N x.ty :: enc ((body x).length + 8) 2) ++ enc x.id 4 = head x := rfl
    rw [hhd] at c2 ⊢
    obtain ⟨m', k', x1, x2, _, _, _⟩ := apL (x := buf k3 (body x)) (new := body x) (cont_buf bM2) c2 (by simp only [head, List.length_append, List.length_cons, List.length_nil, enc_len]; omega)
    simp -implicitDefEqProofs only [sims.1, fx.1, keeps.1, tick_on, Nat.reduceEqDiff, x1]
    exact ⟨m', k', rfl, x2⟩
  cases e11 : decide (x.ty = 11)
  rotate_left
  · have ht : x.ty = 11 := of_decide_eq_true e11
    have hB : body x = enc x.port 2 ++ encHs x.helds := by unfold body; rw [if_neg (by omega), if_neg (by omega), if_neg (by omega), if_pos ht]
    have hb0 := hb
    rw [hB] at hb
    simp only [List.length_append, encHs, enc_len] at hb
    simp -implicitDefEqProofs only [sims.1, fx.1, keeps.1, tick_on, calleeK, faddrK, Nat.reduceEqDiff, ev, q0, q28, wp, e4, e5, e6, e7, e11]
    refine callD_p (snd32 (n := 2) (n0 _) (by omega) (by omega) (by decide)) en32 ?_
    intro k1 m1 b1 d1 f1
    have g1 := d1.var (n0 _) g0
    simp -implicitDefEqProofs only [sims.1, fx.1, keeps.1, tick_on, calleeK, faddrK, Nat.reduceEqDiff, q34, whl, ln35, g1]
    refine callD_p (snd32 (n := 2) b1 (by omega) (by omega) (by simp [enc_len, bnd])) en32 ?_
    intro k2 m2 b2 d2 f2
    have g2 := d2.var b1 g1
    simp -implicitDefEqProofs only [sims.1, keeps.1, tick_on, Nat.reduceEqDiff]
    have hhl : x.helds.length < 281474976710656 := hx.helds.1
    refine W_loopM (loop16 x) (fun s M => s.1 ≤ x.helds.length ∧ M[0]? = some (.var 37 (msC x)) ∧ Bf M s.2 (enc x.port 2 ++ (enc x.helds.length 2 ++ (x.helds.take s.1).flatMap encH))) (fun s => x.helds.length + 1 - s.1) (0, k2)
      (Eq.trans (b := [(4, .int .i64 0), (1, .ptr 0 0), (3, buf k2 ([] ++ enc x.port 2 ++ enc x.helds.length 2))]) (by kernel_rfl) (by simp [loop16])) ⟨by simp, by first | exact g2 | trivial, by simpa using b2⟩ ?_
    rintro ⟨j, k3⟩ M ⟨h1, h2, h3⟩
    simp only at h1 h2 h3
    rcases Nat.lt_or_ge j x.helds.length with hj | hj
    · have c1 : decide (j < x.helds.length) = true := by simpa using hj
      have a1 := add1N j (by omega)
      have hw := hx.helds.2 _ (List.getElem_mem hj)
      have ia : ∀ {kk : IntKind}, iaddrS 27 (hesV x.helds) (.int kk (j : Int)) = some (.ip (heC x.helds[j])) := fun {kk} => iaddrS_isl (by simp [hj])
      have hfl := flat_le (g := encH) x.helds (j + 1)
      have hft := flat_take (g := encH) hj
      rw [hft, List.length_append] at hfl
      have hel1 : (encH x.helds[j]).length = (encR x.helds[j].r).length + 16 := by simp only [encH, List.length_append, enc_len]
      simp -implicitDefEqProofs only [sims.1, fx.1, keeps.1, tick_on, calleeK, faddrK, Nat.reduceEqDiff, Nat.reduceLeDiff, q34, ln35, loop16, ltNat, c1, h2, ia, hel, h0at']
      refine callD_p (snd34 h3 hw.1 (hf.2 ht _ (List.getElem_mem hj)) (by simp only [List.length_append, enc_len]; omega)) en34 ?_
      intro k4 m4 b4 d4 f4
      have g4 := d4.var h3 h2
      simp -implicitDefEqProofs only [sims.1, fx.1, keeps.1, tick_on, calleeK, faddrK, Nat.reduceSub, Nat.reduceEqDiff, Nat.reduceLeDiff, q34, g4, ia, hel, h25, List.drop_drop, List.length_drop]
      refine callD_p (snd32 (n := 8) b4 (by omega) (by omega) (by simp only [List.length_append, enc_len]; omega)) en32 ?_
      intro k5 m5 b5 d5 f5
      have g5 := d5.var b4 g4
      simp -implicitDefEqProofs only [sims.1, fx.1, keeps.1, tick_on, calleeK, faddrK, Nat.reduceAdd, Nat.reduceSub, Nat.reduceEqDiff, Nat.reduceLeDiff, q34, g5, ia, hel, h26, List.drop_drop, List.length_drop]
      refine callD_p (snd32 (n := 8) b5 (by omega) (by omega) (by simp only [List.length_append, enc_len]; omega)) en32 ?_
      intro k6 m6 b6 d6 f6
      have g6 := d6.var b5 g5
      have hn : enc x.port 2 ++ (enc x.helds.length 2 ++ (x.helds.take j).flatMap encH) ++ encR x.helds[j].r ++ enc x.helds[j].p 8 ++ enc x.helds[j].b 8 = enc x.port 2 ++ (enc x.helds.length 2 ++ (x.helds.take (j + 1)).flatMap encH) := by
        rw [hft]
        simp only [encH, List.append_assoc]
      rw [hn] at b6 ⊢
      simp -implicitDefEqProofs only [sims.1, keeps.1, tick_on, Nat.reduceEqDiff, a1]
      exact ⟨(j + 1, k6), by kernel_rfl, ⟨hj, by first | exact g6 | trivial, b6⟩, by simp only; omega⟩
    · obtain rfl : j = x.helds.length := by omega
      have c1 : decide (x.helds.length < x.helds.length) = false := by simp
      rw [List.take_length] at h3
      simp -implicitDefEqProofs only [sims.1, fx.1, keeps.1, tick_on, faddrK, Nat.reduceEqDiff, q0, q34, ln35, i8, loop16, ltNat, c1, h2, List.take_length]
      try simp only [List.nil_append] at h3 ⊢
      have hbody : enc x.port 2 ++ (enc x.helds.length 2 ++ x.helds.flatMap encH) = body x := by rw [hB, encHs]
      rw [hbody] at h3 ⊢
      simp -implicitDefEqProofs only [sims.1, fx.1, keeps.1, tick_on, calleeK, Nat.reduceEqDiff, bs34t, len_buf, a8, w8]
      have cR : Bf (M ++ [rowB [1, i8N x.ty]]) M.length [1, i8N x.ty] := fun _ => by simp
      refine callD_p (l := [1, i8N x.ty]) (k := M.length) (snd32 (n := 2) (x := (body x).length + 8) cR (by omega) (by omega) (by simp [bnd])) en32 ?_
      intro u1 M1 c1 d1 f1
      have gm : (M ++ [rowB [1, i8N x.ty]])[0]? = some (.var 37 (msC x)) := by rw [List.getElem?_append_left (List.getElem?_eq_some_iff.1 h2).1]; exact h2
      have gM1 := d1.var cR gm
      have bM0 : Bf (M ++ [rowB [1, i8N x.ty]]) k3 (body x) := h3.app _
      have bM1 : Bf M1 k3 (body x) := fun hl => d1.2 _ _ (fun _ e => by have := (List.getElem?_eq_some_iff.1 (h3 hl)).1; omega) (bM0 hl)
      simp -implicitDefEqProofs only [sims.1, fx.1, keeps.1, tick_on, calleeK, faddrK, Nat.reduceEqDiff, q1, wi, gM1]
      refine callD_p (snd32 (n := 4) (x := x.id) c1 (by omega) (by omega) (by simp [enc_len, bnd])) en32 ?_
      intro u2 M2 c2 d2 f2
      have bM2 : Bf M2 k3 (body x) := fun hl => d2.2 _ _ (fun hne e => by
          have h9 := (List.getElem?_eq_some_iff.1 (h3 hl)).1
          rcases f1 with f1 | f1
          · simp at f1; omega
          · have := f1.1; omega) (bM1 hl)
      have hhd : (1 :: i8N x.ty :: enc ((body x).length + 8) 2) ++ enc x.id 4 = head x := rfl
      rw [hhd] at c2 ⊢
      obtain ⟨m', k', x1, x2, _, _, _⟩ := apL (x := buf k3 (body x)) (new := body x) (cont_buf bM2) c2 (by simp only [head, List.length_append, List.length_cons, List.length_nil, enc_len]; omega)
      simp -implicitDefEqProofs only [sims.1, fx.1, keeps.1, tick_on, Nat.reduceEqDiff, x1]
      exact ⟨m', k', rfl, x2⟩
  cases e12 : decide (x.ty = 12)
  rotate_left
  · have ht : x.ty = 12 := of_decide_eq_true e12
    have hB : body x = enc x.port 2 ++ enc (b01 x.up) 1 := by unfold body; rw [if_neg (by omega), if_neg (by omega), if_neg (by omega), if_neg (by omega), if_pos ht]
    simp -implicitDefEqProofs only [sims.1, fx.1, keeps.1, tick_on, calleeK, faddrK, Nat.reduceEqDiff, ev, q0, q28, wp, e4, e5, e6, e7, e11, e12]
    refine callD_p (snd32 (n := 2) (n0 _) (by omega) (by omega) (by decide)) en32 ?_
    intro k1 m1 b1 d1 f1
    have g1 := d1.var (n0 _) g0
    simp -implicitDefEqProofs only [sims.1, fx.1, keeps.1, tick_on, calleeK, faddrK, Nat.reduceEqDiff, q29, g1]
    refine callD_ans (ans35 x.up) en35 rfl rfl ?_
    simp -implicitDefEqProofs only [sims.1, keeps.1, tick_on, calleeK, Nat.reduceEqDiff]
    refine callD_p (snd32 (n := 1) b1 (by omega) (by omega) (by simp [enc_len, bnd])) en32 ?_
    intro k2 m2 b2 d2 f2
    have g2 := d2.var b1 g1
    try simp only [List.nil_append] at b2 ⊢
    have hbody : enc x.port 2 ++ enc (b01 x.up) 1 = body x := by rw [hB]
    rw [hbody] at b2 ⊢
    simp -implicitDefEqProofs only [sims.1, fx.1, keeps.1, tick_on, calleeK, faddrK, Nat.reduceEqDiff, q0, i8, g2, bs34t, len_buf, a8, w8]
    have cR : Bf (m2 ++ [rowB [1, i8N x.ty]]) m2.length [1, i8N x.ty] := fun _ => by simp
    refine callD_p (l := [1, i8N x.ty]) (k := m2.length) (snd32 (n := 2) (x := (body x).length + 8) cR (by omega) (by omega) (by simp [bnd])) en32 ?_
    intro u1 M1 c1 d1 f1
    have gm : (m2 ++ [rowB [1, i8N x.ty]])[0]? = some (.var 37 (msC x)) := by rw [List.getElem?_append_left (List.getElem?_eq_some_iff.1 g2).1]; exact g2
    have gM1 := d1.var cR gm
    have bM0 : Bf (m2 ++ [rowB [1, i8N x.ty]]) k2 (body x) := b2.app _
    have bM1 : Bf M1 k2 (body x) := fun hl => d1.2 _ _ (fun _ e => by have := (List.getElem?_eq_some_iff.1 (b2 hl)).1; omega) (bM0 hl)
    simp -implicitDefEqProofs only [sims.1, fx.1, keeps.1, tick_on, calleeK, faddrK, Nat.reduceEqDiff, q1, wi, gM1]
    refine callD_p (snd32 (n := 4) (x := x.id) c1 (by omega) (by omega) (by simp [enc_len, bnd])) en32 ?_
    intro u2 M2 c2 d2 f2
    have bM2 : Bf M2 k2 (body x) := fun hl => d2.2 _ _ (fun hne e => by
        have h9 := (List.getElem?_eq_some_iff.1 (b2 hl)).1
        rcases f1 with f1 | f1
        · simp at f1; omega
        · have := f1.1; omega) (bM1 hl)
    have hhd : (1 :: i8N x.ty :: enc ((body x).length + 8) 2) ++ enc x.id 4 = head x := rfl
    rw [hhd] at c2 ⊢
    obtain ⟨m', k', x1, x2, _, _, _⟩ := apL (x := buf k2 (body x)) (new := body x) (cont_buf bM2) c2 (by simp only [head, List.length_append, List.length_cons, List.length_nil, enc_len]; omega)
    simp -implicitDefEqProofs only [sims.1, fx.1, keeps.1, tick_on, Nat.reduceEqDiff, x1]
    exact ⟨m', k', rfl, x2⟩
  cases e13 : decide (x.ty = 13)
  rotate_left
  · have ht : x.ty = 13 := of_decide_eq_true e13
    have hB : body x = enc x.code 2 := by unfold body; rw [if_neg (by omega), if_neg (by omega), if_neg (by omega), if_neg (by omega), if_neg (by omega), if_pos ht]
    simp -implicitDefEqProofs only [sims.1, fx.1, keeps.1, tick_on, calleeK, faddrK, Nat.reduceEqDiff, ev, q0, q35, wc, e4, e5, e6, e7, e11, e12, e13]
    refine callD_p (snd32 (n := 2) (n0 _) (by omega) (by omega) (by decide)) en32 ?_
    intro k1 m1 b1 d1 f1
    have g1 := d1.var (n0 _) g0
    try simp only [List.nil_append] at b1 ⊢
    have hbody : enc x.code 2 = body x := by rw [hB]
    rw [hbody] at b1 ⊢
    simp -implicitDefEqProofs only [sims.1, fx.1, keeps.1, tick_on, calleeK, faddrK, Nat.reduceEqDiff, q0, i8, g1, bs34t, len_buf, a8, w8]
    have cR : Bf (m1 ++ [rowB [1, i8N x.ty]]) m1.length [1, i8N x.ty] := fun _ => by simp
    refine callD_p (l := [1, i8N x.ty]) (k := m1.length) (snd32 (n := 2) (x := (body x).length + 8) cR (by omega) (by omega) (by simp [bnd])) en32 ?_
    intro u1 M1 c1 d1 f1
    have gm : (m1 ++ [rowB [1, i8N x.ty]])[0]? = some (.var 37 (msC x)) := by rw [List.getElem?_append_left (List.getElem?_eq_some_iff.1 g1).1]; exact g1
    have gM1 := d1.var cR gm
    have bM0 : Bf (m1 ++ [rowB [1, i8N x.ty]]) k1 (body x) := b1.app _
    have bM1 : Bf M1 k1 (body x) := fun hl => d1.2 _ _ (fun _ e => by have := (List.getElem?_eq_some_iff.1 (b1 hl)).1; omega) (bM0 hl)
    simp -implicitDefEqProofs only [sims.1, fx.1, keeps.1, tick_on, calleeK, faddrK, Nat.reduceEqDiff, q1, wi, gM1]
    refine callD_p (snd32 (n := 4) (x := x.id) c1 (by omega) (by omega) (by simp [enc_len, bnd])) en32 ?_
    intro u2 M2 c2 d2 f2
    have bM2 : Bf M2 k1 (body x) := fun hl => d2.2 _ _ (fun hne e => by
        have h9 := (List.getElem?_eq_some_iff.1 (b1 hl)).1
        rcases f1 with f1 | f1
        · simp at f1; omega
        · have := f1.1; omega) (bM1 hl)
    have hhd : (1 :: i8N x.ty :: enc ((body x).length + 8) 2) ++ enc x.id 4 = head x := rfl
    rw [hhd] at c2 ⊢
    obtain ⟨m', k', x1, x2, _, _, _⟩ := apL (x := buf k1 (body x)) (new := body x) (cont_buf bM2) c2 (by simp only [head, List.length_append, List.length_cons, List.length_nil, enc_len]; omega)
    simp -implicitDefEqProofs only [sims.1, fx.1, keeps.1, tick_on, Nat.reduceEqDiff, x1]
    exact ⟨m', k', rfl, x2⟩
  · skip
    have hB : body x = [] := by
      have h4 := of_decide_eq_false e4; have h5 := of_decide_eq_false e5; have h6 := of_decide_eq_false e6; have h7 := of_decide_eq_false e7; have h11 := of_decide_eq_false e11; have h12 := of_decide_eq_false e12; have h13 := of_decide_eq_false e13
      unfold body; rw [if_neg h4, if_neg h5, if_neg (by omega), if_neg h11, if_neg h12, if_neg h13]
    have g1 := g0
    have b1 : Bf [B.var 37 (msC x)] 0 (body x) := by rw [hB]; exact n0 _
    have ev2 : ∀ env, evO env (.const (.slice none 0 0)) = buf 0 (body x) := fun _ => by rw [hB]; rfl
    simp -implicitDefEqProofs only [sims.1, fx.1, keeps.1, tick_on, calleeK, faddrK, Nat.reduceEqDiff, ev2, q0, i8, e4, e5, e6, e7, e11, e12, e13, bs34t, len_buf, a8, w8]
    try simp only [] at b1 ⊢
    have cR : Bf ([B.var 37 (msC x)] ++ [rowB [1, i8N x.ty]]) [B.var 37 (msC x)].length [1, i8N x.ty] := fun _ => by simp
    refine callD_p (l := [1, i8N x.ty]) (k := [B.var 37 (msC x)].length) (snd32 (n := 2) (x := (body x).length + 8) cR (by omega) (by omega) (by simp [bnd])) en32 ?_
    intro u1 M1 c1 d1 f1
    have gm : ([B.var 37 (msC x)] ++ [rowB [1, i8N x.ty]])[0]? = some (.var 37 (msC x)) := by rw [List.getElem?_append_left (List.getElem?_eq_some_iff.1 g1).1]; exact g1
    have gM1 := d1.var cR gm
    have bM0 : Bf ([B.var 37 (msC x)] ++ [rowB [1, i8N x.ty]]) 0 (body x) := b1.app _
    have bM1 : Bf M1 0 (body x) := fun hl => d1.2 _ _ (fun _ e => by have := (List.getElem?_eq_some_iff.1 (b1 hl)).1; omega) (bM0 hl)
    simp -implicitDefEqProofs only [sims.1, fx.1, keeps.1, tick_on, calleeK, faddrK, Nat.reduceEqDiff, q1, wi, gM1]
    refine callD_p (snd32 (n := 4) (x := x.id) c1 (by omega) (by omega) (by simp [enc_len, bnd])) en32 ?_
    intro u2 M2 c2 d2 f2
    have bM2 : Bf M2 0 (body x) := fun hl => d2.2 _ _ (fun hne e => by
        have h9 := (List.getElem?_eq_some_iff.1 (b1 hl)).1
        rcases f1 with f1 | f1
        · simp at f1; omega
        · have := f1.1; omega) (bM1 hl)
    have hhd : (1 :: i8N x.ty :: enc ((body x).length + 8) 2) ++ enc x.id 4 = head x := rfl
    rw [hhd] at c2 ⊢
    obtain ⟨m', k', x1, x2, _, _, _⟩ := apL (x := buf 0 (body x)) (new := body x) (cont_buf bM2) c2 (by simp only [head, List.length_append, List.length_cons, List.length_nil, enc_len]; omega)
    simp -implicitDefEqProofs only [sims.1, fx.1, keeps.1, tick_on, Nat.reduceEqDiff, x1]
    exact ⟨m', k', rfl, x2⟩
end Go.Proofs.Ytjjenpdjmcmgbaa
