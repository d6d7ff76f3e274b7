/- Facts on the program's types. No condition. -/
import Derived.Test.YtaoaaffddillmaaAm7
import Derived.Test.YtaoaaffddillmaaProg
namespace Go.Proofs.Ytaoaaffddillmaa
open Go Ab
set_option linter.unusedSimpArgs false
set_option linter.unusedVariables false
set_option maxRecDepth 20000
theorem fol : Try.prog.follows .mixedOrders = true := by kernel_rfl
theorem en2 : enterable Try.prog 2 = true := by kernel_rfl
theorem en3 : enterable Try.prog 3 = true := by kernel_rfl
theorem rs3 (env : Env) (m : Mem) : resV Try.prog Try.prog.funcs[3] env m = some (env 2) := resV_tmp rfl env m
theorem fa29_2 (p : V) : faddrV Try.prog 29 2 p = faddrK 23 p := by cases p <;> rfl
theorem ld27 (m : Mem) (p : V) : loadV Try.prog m 27 p = loadK false 1 m p := loadV_of (fun _ _ => rfl) p
theorem ld29 (m : Mem) (p : V) : loadV Try.prog m 29 p = loadK true 25 m p := loadV_of (fun _ _ => rfl) p
theorem en4 : enterable Try.prog 4 = true := by kernel_rfl
theorem rs4 (env : Env) (m : Mem) : resV Try.prog Try.prog.funcs[4] env m = some (env 8) := resV_tmp rfl env m
theorem lni35 (m : Mem) (sz : Nat) (es : List (List V)) : lenV Try.prog m 35 (.isl sz es) = some (.int .i64 es.length) := rfl
theorem lns35 (m : Mem) (sz n off len : Nat) : lenV Try.prog m 35 (.sl sz n off len) = some (.int .i64 len) := rfl
theorem lnn35 (m : Mem) : lenV Try.prog m 35 .nils = some (.int .i64 0) := rfl
theorem ld24 (m : Mem) (p : V) : loadV Try.prog m 24 p = loadK true 11 m p := loadV_of (fun _ _ => rfl) p
theorem eqb4 : isBoolT Try.prog 4 = true := by kernel_rfl
theorem en5 : enterable Try.prog 5 = true := by kernel_rfl
theorem rs5 (env : Env) (m : Mem) : resV Try.prog Try.prog.funcs[5] env m = some (env 6) := resV_tmp rfl env m
theorem lni27 (m : Mem) (sz : Nat) (es : List (List V)) : lenV Try.prog m 27 (.isl sz es) = some (.int .i64 es.length) := rfl
theorem lns27 (m : Mem) (sz n off len : Nat) : lenV Try.prog m 27 (.sl sz n off len) = some (.int .i64 len) := rfl
theorem lnn27 (m : Mem) : lenV Try.prog m 27 .nils = some (.int .i64 0) := rfl
theorem ia27 (p q : V) : iaddrV Try.prog 27 p q = iaddrS 1 p q := by cases p <;> cases q <;> rfl
theorem ld42 (m : Mem) (p : V) : loadV Try.prog m 42 p = loadK false 1 m p := loadV_of (fun _ _ => rfl) p
theorem lni42 (m : Mem) (sz : Nat) (es : List (List V)) : lenV Try.prog m 42 (.isl sz es) = some (.int .i64 es.length) := rfl
theorem lns42 (m : Mem) (sz n off len : Nat) : lenV Try.prog m 42 (.sl sz n off len) = some (.int .i64 len) := rfl
theorem lnn42 (m : Mem) : lenV Try.prog m 42 .nils = some (.int .i64 0) := rfl
theorem ia42 (p q : V) : iaddrV Try.prog 42 p q = iaddrS 3 p q := by cases p <;> cases q <;> rfl
theorem fa45_0 (p : V) : faddrV Try.prog 45 0 p = faddrK 0 p := by cases p <;> rfl
theorem ld43 (m : Mem) (p : V) : loadV Try.prog m 43 p = loadK false 1 m p := loadV_of (fun _ _ => rfl) p
theorem fa45_1 (p : V) : faddrV Try.prog 45 1 p = faddrK 1 p := by cases p <;> rfl
theorem cv43_3 (k : IntKind) (n : Int) : convV Try.prog 43 3 (.int k n) = some (.int .i64 (IntKind.i64.wrap n)) := rfl
theorem lni37 (m : Mem) (sz : Nat) (es : List (List V)) : lenV Try.prog m 37 (.isl sz es) = some (.int .i64 es.length) := rfl
theorem lns37 (m : Mem) (sz n off len : Nat) : lenV Try.prog m 37 (.sl sz n off len) = some (.int .i64 len) := rfl
theorem lnn37 (m : Mem) : lenV Try.prog m 37 .nils = some (.int .i64 0) := rfl
theorem ia37 (p q : V) : iaddrV Try.prog 37 p q = iaddrS 11 p q := by cases p <;> cases q <;> rfl
theorem ia24 (p q : V) : iaddrV Try.prog 24 p q = iaddrA 11 1 p q := by cases p <;> cases q <;> rfl
theorem ld22 (m : Mem) (p : V) : loadV Try.prog m 22 p = loadK false 1 m p := loadV_of (fun _ _ => rfl) p
theorem cv3_43 (k : IntKind) (n : Int) : convV Try.prog 3 43 (.int k n) = some (.int .i8 (IntKind.i8.wrap n)) := rfl
theorem en6 : enterable Try.prog 6 = true := by kernel_rfl
theorem rs6 (env : Env) (m : Mem) : resV Try.prog Try.prog.funcs[6] env m = some (env 8) := resV_tmp rfl env m
theorem ia35 (p q : V) : iaddrV Try.prog 35 p q = iaddrS 1 p q := by cases p <;> cases q <;> rfl
theorem ld48 (m : Mem) (p : V) : loadV Try.prog m 48 p = loadK false 1 m p := loadV_of (fun _ _ => rfl) p
theorem cv48_22 (k : IntKind) (n : Int) : convV Try.prog 48 22 (.int k n) = some (.int .u64 (IntKind.u64.wrap n)) := rfl
theorem ea24 (f g : Nat → Int) (hf : inK .u64 11 f) (hg : inK .u64 11 g) : eqV Try.prog 24 (.agg (cl .u64 11 f)) (.agg (cl .u64 11 g)) = some (eqN 11 f g) := eqV_cl2 (by kernel_rfl) (by kernel_rfl) hf hg
theorem en7 : enterable Try.prog 7 = true := by kernel_rfl
theorem rs7 (env : Env) (m : Mem) : resV Try.prog Try.prog.funcs[7] env m = some (env 6) := resV_tmp rfl env m
theorem en8 : enterable Try.prog 8 = true := by kernel_rfl
theorem rs8 (env : Env) (m : Mem) : resV Try.prog Try.prog.funcs[8] env m = some (env 4) := resV_tmp rfl env m
theorem en9 : enterable Try.prog 9 = true := by kernel_rfl
theorem rs9 (env : Env) (m : Mem) : resV Try.prog Try.prog.funcs[9] env m = some (env 2) := resV_tmp rfl env m
theorem en10 : enterable Try.prog 10 = true := by kernel_rfl
theorem rs10 (env : Env) (m : Mem) : resV Try.prog Try.prog.funcs[10] env m = some (env 0) := resV_tmp rfl env m
theorem al24 (m : Mem) : allocV Try.prog 24 m = some (.ptr m.length 0, m ++ [.var 24 (cl .u64 11 fun _ => 0)]) := by kernel_rfl
theorem st22 (m : Mem) (p v : V) : storeV Try.prog 22 m p v = storeK 1 m p v := storeV_of (i := (Try.prog.info? 22).get rfl) rfl p v
theorem al45 (m : Mem) : allocV Try.prog 45 m = some (.ptr m.length 0, m ++ [.var 45 ([.int .i8 0, .int .i8 0, .int .u64 0])]) := by kernel_rfl
theorem st45 (m : Mem) (p v : V) : storeV Try.prog 45 m p v = storeK 3 m p v := storeV_of (i := (Try.prog.info? 45).get rfl) rfl p v
theorem ld45 (m : Mem) (p : V) : loadV Try.prog m 45 p = loadK true 3 m p := loadV_of (fun _ _ => rfl) p
theorem en11 : enterable Try.prog 11 = true := by kernel_rfl
theorem rs11 (env : Env) (m : Mem) : resV Try.prog Try.prog.funcs[11] env m = some (env 2) := resV_tmp rfl env m
theorem fa29_1 (p : V) : faddrV Try.prog 29 1 p = faddrK 1 p := by cases p <;> rfl
theorem ld26 (m : Mem) (p : V) : loadV Try.prog m 26 p = loadK true 22 m p := loadV_of (fun _ _ => rfl) p
theorem en12 : enterable Try.prog 12 = true := by kernel_rfl
theorem rs12 (env : Env) (m : Mem) : resV Try.prog Try.prog.funcs[12] env m = some (env 2) := resV_tmp rfl env m
theorem en13 : enterable Try.prog 13 = true := by kernel_rfl
theorem rs13 (env : Env) (m : Mem) : resV Try.prog Try.prog.funcs[13] env m = some (env 2) := resV_tmp rfl env m
theorem en14 : enterable Try.prog 14 = true := by kernel_rfl
theorem rs14 (env : Env) (m : Mem) : resV Try.prog Try.prog.funcs[14] env m = some (.tup [env 6, env 7]) := resV_tmp_tmp rfl env m
theorem st24 (m : Mem) (p v : V) : storeV Try.prog 24 m p v = storeK 11 m p v := storeV_of (i := (Try.prog.info? 24).get rfl) rfl p v
theorem fa45_2 (p : V) : faddrV Try.prog 45 2 p = faddrK 2 p := by cases p <;> rfl
theorem en15 : enterable Try.prog 15 = true := by kernel_rfl
theorem rs15 (env : Env) (m : Mem) : resV Try.prog Try.prog.funcs[15] env m = some (env 4) := resV_tmp rfl env m
theorem en16 : enterable Try.prog 16 = true := by kernel_rfl
theorem rs16 (env : Env) (m : Mem) : resV Try.prog Try.prog.funcs[16] env m = some (env 2) := resV_tmp rfl env m
theorem ix56 (p q : V) : indexV Try.prog 56 p q = indexA 11 false 1 p q := by cases p <;> cases q <;> rfl
theorem en17 : enterable Try.prog 17 = true := by kernel_rfl
theorem rs17 (env : Env) (m : Mem) : resV Try.prog Try.prog.funcs[17] env m = some (.tup [env 6, env 7]) := resV_tmp_tmp rfl env m
theorem en18 : enterable Try.prog 18 = true := by kernel_rfl
theorem rs18 (env : Env) (m : Mem) : resV Try.prog Try.prog.funcs[18] env m = some (env 4) := resV_tmp rfl env m
theorem en19 : enterable Try.prog 19 = true := by kernel_rfl
theorem rs19 (env : Env) (m : Mem) : resV Try.prog Try.prog.funcs[19] env m = some (env 4) := resV_tmp rfl env m
theorem en20 : enterable Try.prog 20 = true := by kernel_rfl
theorem rs20 (env : Env) (m : Mem) : resV Try.prog Try.prog.funcs[20] env m = some (env 2) := resV_tmp rfl env m
theorem fa26_1 (p : V) : faddrV Try.prog 26 1 p = faddrK 11 p := by cases p <;> rfl
theorem ix24 (p q : V) : indexV Try.prog 24 p q = indexA 11 false 1 p q := by cases p <;> cases q <;> rfl
theorem cv3_61 (k : IntKind) (n : Int) : convV Try.prog 3 61 (.int k n) = some (.int .u64 (IntKind.u64.wrap n)) := rfl
theorem fa26_0 (p : V) : faddrV Try.prog 26 0 p = faddrK 0 p := by cases p <;> rfl
theorem en21 : enterable Try.prog 21 = true := by kernel_rfl
theorem rs21 (env : Env) (m : Mem) : resV Try.prog Try.prog.funcs[21] env m = some (env 4) := resV_tmp rfl env m
theorem en22 : enterable Try.prog 22 = true := by kernel_rfl
theorem rs22 (env : Env) (m : Mem) : resV Try.prog Try.prog.funcs[22] env m = some (env 2) := resV_tmp rfl env m
theorem en23 : enterable Try.prog 23 = true := by kernel_rfl
theorem rs23 (env : Env) (m : Mem) : resV Try.prog Try.prog.funcs[23] env m = some (env 2) := resV_tmp rfl env m
theorem en24 : enterable Try.prog 24 = true := by kernel_rfl
theorem rs24 (env : Env) (m : Mem) : resV Try.prog Try.prog.funcs[24] env m = some (env 2) := resV_tmp rfl env m
theorem en25 : enterable Try.prog 25 = true := by kernel_rfl
theorem rs25 (env : Env) (m : Mem) : resV Try.prog Try.prog.funcs[25] env m = some (env 2) := resV_tmp rfl env m
theorem en26 : enterable Try.prog 26 = true := by kernel_rfl
theorem rs26 (env : Env) (m : Mem) : resV Try.prog Try.prog.funcs[26] env m = some (env 6) := resV_tmp rfl env m
theorem cv22_48 (k : IntKind) (n : Int) : convV Try.prog 22 48 (.int k n) = some (.int .u16 (IntKind.u16.wrap n)) := rfl
theorem en27 : enterable Try.prog 27 = true := by kernel_rfl
theorem rs27 (env : Env) (m : Mem) : resV Try.prog Try.prog.funcs[27] env m = loadV Try.prog m 56 (env 0) := resV_cell rfl env m
theorem al56 (m : Mem) : allocV Try.prog 56 m = some (.ptr m.length 0, m ++ [.var 56 (cl .i64 11 fun _ => 0)]) := by kernel_rfl
theorem st56 (m : Mem) (p v : V) : storeV Try.prog 56 m p v = storeK 11 m p v := storeV_of (i := (Try.prog.info? 56).get rfl) rfl p v
theorem ld56 (m : Mem) (p : V) : loadV Try.prog m 56 p = loadK true 11 m p := loadV_of (fun _ _ => rfl) p
theorem en28 : enterable Try.prog 28 = true := by kernel_rfl
theorem rs28 (env : Env) (m : Mem) : resV Try.prog Try.prog.funcs[28] env m = some (env 4) := resV_tmp rfl env m
theorem en29 : enterable Try.prog 29 = true := by kernel_rfl
theorem rs29 (env : Env) (m : Mem) : resV Try.prog Try.prog.funcs[29] env m = some (env 6) := resV_tmp rfl env m
theorem en30 : enterable Try.prog 30 = true := by kernel_rfl
theorem rs30 (env : Env) (m : Mem) : resV Try.prog Try.prog.funcs[30] env m = some (env 4) := resV_tmp rfl env m
theorem en31 : enterable Try.prog 31 = true := by kernel_rfl
theorem rs31 (env : Env) (m : Mem) : resV Try.prog Try.prog.funcs[31] env m = some (env 4) := resV_tmp rfl env m
theorem en32 : enterable Try.prog 32 = true := by kernel_rfl
theorem rs32 (env : Env) (m : Mem) : resV Try.prog Try.prog.funcs[32] env m = some (env 4) := resV_tmp rfl env m
theorem en33 : enterable Try.prog 33 = true := by kernel_rfl
theorem rs33 (env : Env) (m : Mem) : resV Try.prog Try.prog.funcs[33] env m = some (env 2) := resV_tmp rfl env m
theorem en34 : enterable Try.prog 34 = true := by kernel_rfl
theorem rs34 (env : Env) (m : Mem) : resV Try.prog Try.prog.funcs[34] env m = some (env 4) := resV_tmp rfl env m
theorem en35 : enterable Try.prog 35 = true := by kernel_rfl
theorem rs35 (env : Env) (m : Mem) : resV Try.prog Try.prog.funcs[35] env m = some (env 4) := resV_tmp rfl env m
end Go.Proofs.Ytaoaaffddillmaa
