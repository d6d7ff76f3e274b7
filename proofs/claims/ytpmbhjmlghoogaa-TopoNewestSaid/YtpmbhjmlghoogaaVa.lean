/- Runs with open numbers: a switch joins, a port goes down; two spots put into order. No condition. -/
import Derived.Test.YtpmbhjmlghoogaaUl
namespace Go.Proofs.Ytpmbhjmlghoogaa
open Go Ab
set_option linter.unusedSimpArgs false
set_option linter.unusedVariables false
set_option maxRecDepth 20000

def cutR (k : Nat) : CR → CR
  | .ret v m => .ret v (m.take k)
  | .pan v m => .pan v (m.take k)
/-- A run whose numbers may stay open; what is new behind it is left open. -/
theorem snd_runC {f : FuncId} {vs : List V} {m mw : Mem} {v : V} (k n : Nat) {es : List Ent} (hes : AllOk Try.prog es) (h : (funXT Try.prog es n f vs m).map (List.map (cutR k)) = some [.ret v mw]) :
    Snd Try.prog f vs m fun r => ∃ new, r = .ret v (mw ++ new) := by
  cases e : funXT Try.prog es n f vs m with
  | none => rw [e] at h; cases h
  | some l =>
    rw [e] at h
    simp only [Option.map_some, Option.some.injEq] at h
    refine (funXT_good fol hes n f vs m l e).mono fun q hq => ?_
    have hm : cutR k q ∈ l.map (cutR k) := List.mem_map.2 ⟨q, hq, rfl⟩
    rw [h, List.mem_singleton] at hm
    cases q with
    | ret u m1 =>
      simp only [cutR] at hm
      cases hm
      exact ⟨m1.drop k, by rw [List.take_append_drop]⟩
    | pan u m1 => simp only [cutR] at hm; cases hm
theorem e3_ok : AllOk Try.prog [⟨20, [.int .u16 3, .sl 1 0 0 1, .sl 1 1 0 1, .int .i64 0, .int .i64 0], [rowU [9], rowU [4]], [.ret (.tup [.unk, .int .i64 0]) [rowU [9], rowU [4]]]⟩] :=
  ⟨new3.mono fun q h => by rw [h]; exact List.mem_singleton.2 rfl, trivial⟩
def gs3a : List Gt := [((3, 9), (true, false)), ((3, 4), (false, false))]
def gs3 : List Gt := [((3, 9), (true, false)), ((3, 4), (false, false)), ((5, 6), (false, false))]
def gs3d : List Gt := [((3, 9), (true, false)), ((3, 4), (false, true)), ((5, 6), (false, false))]
theorem lay_closed2 {n a t : Int} {g s h b c : B} (hg : nfB g = true) (hs : nfB s = true) (hh : nfB h = true) (hb : nfB b = true) (hc : nfB c = true) : closedB (List.range (lay n a t g s h ++ [b, c]).length) (lay n a t g s h ++ [b, c]) = true := by
  have e : List.range (lay n a t g s h ++ [b, c]).length = [0, 1, 2, 3, 4, 5] := rfl
  rw [e]
  unfold closedB lay
  simp only [List.cons_append, List.nil_append, List.all_cons, List.all_nil, List.getD_cons_zero, List.getD_cons_succ, nfB_inDB _ hg, nfB_inDB _ hs, nfB_inDB _ hh, nfB_inDB _ hb, nfB_inDB _ hc, Bool.and_true]
  rfl
theorem jn3 (n a : Int) : Snd Try.prog 8 [.ptr 0 0, .int .u16 3, .sl 1 4 0 1, .sl 1 5 0 1] (lay n a 0 (gtR []) (.map [] [] 0) (.map [] [] 0) ++ [rowU [9], rowU [4]]) fun r => r = .ret (.tup []) (lay n a 0 (gtR gs3a) (.map [] [] 0) (.map [] [] 0) ++ [rowU [9], rowU [4]]) :=
  Snd_dropW rfl (lay_closed2 rfl rfl rfl rfl rfl) rfl (snd_runC 6 3000 e3_ok (by kernel_rfl))
/-- The wire of (3,4) and (5,6), seen at 0. -/
def wr1 : V := .agg [.int .u16 3, .int .u16 4, .int .u16 5, .int .u16 6]
def snM : B := .map [(wr1, .agg [.int .i64 0])] [0] 1
theorem pt3 (n a t : Int) : Snd Try.prog 15 [.ptr 0 0, spA 3 4, .bool false] (lay n a t (gtR gs3) snM (.map [] [] 0)) fun r => r = .ret (.tup []) (lay n a t (gtR gs3d) (.map [] [] 1) (.map [] [] 0)) :=
  Snd_dropW rfl (lay_closed rfl rfl rfl) rfl (snd_runC 4 3000 (es := []) trivial (by kernel_rfl))
theorem wn1 (n a t : Int) : Snd Try.prog 12 [.ptr 0 0] (lay n a t (gtR gs3d) (.map [] [] 1) (.map [] [] 0)) fun r => r = .ret .nils (lay n a t (gtR gs3d) (.map [] [] 1) (.map [] [] 0)) :=
  Snd_dropW rfl (lay_closed rfl rfl rfl) rfl (snd_runC 4 3000 (es := []) trivial (by kernel_rfl))

/-! ### Two spots in order -/
def rowS (l : List (Nat × Nat)) : B := .row 30 2 (l.map fun x => spC x.1 x.2)
def junk (o : Option (List CR)) : Mem := match o with
  | some (.ret _ m :: _) => m.drop 1
  | _ => []
noncomputable def jA : Mem := junk (funXT Try.prog [] 3000 32 [.sl 2 0 0 2, .fn 27 [] []] [rowS [(3, 4), (5, 6)]])
noncomputable def jB : Mem := junk (funXT Try.prog [] 3000 32 [.sl 2 0 0 2, .fn 27 [] []] [rowS [(5, 6), (3, 4)]])
theorem ordA : Snd Try.prog 32 [.sl 2 0 0 2, .fn 27 [] []] [rowS [(3, 4), (5, 6)]] fun q => q = .ret (.sl 2 0 0 2) (rowS [(3, 4), (5, 6)] :: jA) :=
  (ent_run (es := []) fol trivial 3000 ⟨32, [.sl 2 0 0 2, .fn 27 [] []], [rowS [(3, 4), (5, 6)]], [.ret (.sl 2 0 0 2) (rowS [(3, 4), (5, 6)] :: jA)]⟩ (by kernel_rfl)).mono fun q h => List.mem_singleton.1 h
theorem ordB : Snd Try.prog 32 [.sl 2 0 0 2, .fn 27 [] []] [rowS [(5, 6), (3, 4)]] fun q => q = .ret (.sl 2 0 0 2) (rowS [(3, 4), (5, 6)] :: jB) :=
  (ent_run (es := []) fol trivial 3000 ⟨32, [.sl 2 0 0 2, .fn 27 [] []], [rowS [(5, 6), (3, 4)]], [.ret (.sl 2 0 0 2) (rowS [(3, 4), (5, 6)] :: jB)]⟩ (by kernel_rfl)).mono fun q h => List.mem_singleton.1 h
theorem nfjA : nfM (rowS [(3, 4), (5, 6)] :: jA) = true := by kernel_rfl
theorem nfjB : nfM (rowS [(3, 4), (5, 6)] :: jB) = true := by kernel_rfl
theorem by56 : Ans Try.prog 27 [spA 3 4, spA 5 6] (.int .i64 (-1)) := ans_run fol 3000 (by kernel_rfl)
end Go.Proofs.Ytpmbhjmlghoogaa
