/- Facts on the program's types. No condition. -/
import Derived.Test.YtnhejkfbnjopjaaAm7
import Derived.Test.YtnhejkfbnjopjaaProg
namespace Go.Proofs.Ytnhejkfbnjopjaa
open Go Ab
set_option linter.unusedSimpArgs false
set_option linter.unusedVariables false
set_option maxRecDepth 20000
theorem fol : Try.prog.follows .mixedOrders = true := by kernel_rfl
theorem en2 : enterable Try.prog 2 = true := by kernel_rfl
theorem en3 : enterable Try.prog 3 = true := by kernel_rfl
theorem rs3 (env : Env) (m : Mem) : resV Try.prog Try.prog.funcs[3] env m = some (env 6) := resV_tmp rfl env m
theorem ld26 (m : Mem) (p : V) : loadV Try.prog m 26 p = loadK true 22 m p := loadV_of (fun _ _ => rfl) p
theorem al26 (m : Mem) : allocV Try.prog 26 m = some (.ptr m.length 0, m ++ [.var 26 (cl .u64 22 fun _ => 0)]) := by kernel_rfl
theorem st26 (m : Mem) (p v : V) : storeV Try.prog 26 m p v = storeK 22 m p v := storeV_of (i := (Try.prog.info? 26).get rfl) rfl p v
theorem eqb4 : isBoolT Try.prog 4 = true := by kernel_rfl
theorem ea26 (f g : Nat → Int) (hf : inK .u64 22 f) (hg : inK .u64 22 g) : eqV Try.prog 26 (.agg (cl .u64 22 f)) (.agg (cl .u64 22 g)) = some (eqN 22 f g) := eqV_cl2 (by kernel_rfl) (by kernel_rfl) hf hg
theorem bu26 : buildV Try.prog 26 [] = some (.agg (cl .u64 22 fun _ => 0)) := by kernel_rfl
theorem en4 : enterable Try.prog 4 = true := by kernel_rfl
theorem rs4 (env : Env) (m : Mem) : resV Try.prog Try.prog.funcs[4] env m = some (env 4) := resV_tmp rfl env m
theorem en5 : enterable Try.prog 5 = true := by kernel_rfl
theorem rs5 (env : Env) (m : Mem) : resV Try.prog Try.prog.funcs[5] env m = some (env 4) := resV_tmp rfl env m
theorem ld24 (m : Mem) (p : V) : loadV Try.prog m 24 p = loadK true 11 m p := loadV_of (fun _ _ => rfl) p
theorem en6 : enterable Try.prog 6 = true := by kernel_rfl
theorem rs6 (env : Env) (m : Mem) : resV Try.prog Try.prog.funcs[6] env m = some (env 8) := resV_tmp rfl env m
theorem ia24 (p q : V) : iaddrV Try.prog 24 p q = iaddrA 11 1 p q := by cases p <;> cases q <;> rfl
theorem ld22 (m : Mem) (p : V) : loadV Try.prog m 22 p = loadK false 1 m p := loadV_of (fun _ _ => rfl) p
theorem fa26_1 (p : V) : faddrV Try.prog 26 1 p = faddrK 11 p := by cases p <;> rfl
theorem fa26_0 (p : V) : faddrV Try.prog 26 0 p = faddrK 0 p := by cases p <;> rfl
theorem st22 (m : Mem) (p v : V) : storeV Try.prog 22 m p v = storeK 1 m p v := storeV_of (i := (Try.prog.info? 22).get rfl) rfl p v
theorem en7 : enterable Try.prog 7 = true := by kernel_rfl
theorem rs7 (env : Env) (m : Mem) : resV Try.prog Try.prog.funcs[7] env m = some (env 8) := resV_tmp rfl env m
theorem cv3_37 (k : IntKind) (n : Int) : convV Try.prog 3 37 (.int k n) = some (.int .i8 (IntKind.i8.wrap n)) := rfl
theorem en8 : enterable Try.prog 8 = true := by kernel_rfl
theorem rs8 (env : Env) (m : Mem) : resV Try.prog Try.prog.funcs[8] env m = some (env 6) := resV_tmp rfl env m
theorem en9 : enterable Try.prog 9 = true := by kernel_rfl
theorem rs9 (env : Env) (m : Mem) : resV Try.prog Try.prog.funcs[9] env m = some (env 4) := resV_tmp rfl env m
theorem lni40 (m : Mem) (sz : Nat) (es : List (List V)) : lenV Try.prog m 40 (.isl sz es) = some (.int .i64 es.length) := rfl
theorem lns40 (m : Mem) (sz n off len : Nat) : lenV Try.prog m 40 (.sl sz n off len) = some (.int .i64 len) := rfl
theorem lnn40 (m : Mem) : lenV Try.prog m 40 .nils = some (.int .i64 0) := rfl
theorem ia40 (p q : V) : iaddrV Try.prog 40 p q = iaddrS 13 p q := by cases p <;> cases q <;> rfl
theorem ld46 (m : Mem) (p : V) : loadV Try.prog m 46 p = loadK true 13 m p := loadV_of (fun _ _ => rfl) p
theorem al46 (m : Mem) : allocV Try.prog 46 m = some (.ptr m.length 0, m ++ [.var 46 ([.int .i64 0, .int .u64 0, .int .u64 0, .int .u64 0, .int .u64 0, .int .u64 0, .int .u64 0, .int .u64 0, .int .u64 0, .int .u64 0, .int .u64 0, .int .u64 0, .int .i64 0])]) := by kernel_rfl
theorem st46 (m : Mem) (p v : V) : storeV Try.prog 46 m p v = storeK 13 m p v := storeV_of (i := (Try.prog.info? 46).get rfl) rfl p v
theorem fa46_0 (p : V) : faddrV Try.prog 46 0 p = faddrK 0 p := by cases p <;> rfl
theorem ld3 (m : Mem) (p : V) : loadV Try.prog m 3 p = loadK false 1 m p := loadV_of (fun _ _ => rfl) p
theorem fa46_1 (p : V) : faddrV Try.prog 46 1 p = faddrK 1 p := by cases p <;> rfl
theorem fa46_2 (p : V) : faddrV Try.prog 46 2 p = faddrK 12 p := by cases p <;> rfl
theorem en10 : enterable Try.prog 10 = true := by kernel_rfl
theorem rs10 (env : Env) (m : Mem) : resV Try.prog Try.prog.funcs[10] env m = some (env 6) := resV_tmp rfl env m
theorem en11 : enterable Try.prog 11 = true := by kernel_rfl
theorem rs11 (env : Env) (m : Mem) : resV Try.prog Try.prog.funcs[11] env m = some (env 4) := resV_tmp rfl env m
theorem ea24 (f g : Nat → Int) (hf : inK .u64 11 f) (hg : inK .u64 11 g) : eqV Try.prog 24 (.agg (cl .u64 11 f)) (.agg (cl .u64 11 g)) = some (eqN 11 f g) := eqV_cl2 (by kernel_rfl) (by kernel_rfl) hf hg
theorem en12 : enterable Try.prog 12 = true := by kernel_rfl
theorem rs12 (env : Env) (m : Mem) : resV Try.prog Try.prog.funcs[12] env m = some (env 4) := resV_tmp rfl env m
theorem lni53 (m : Mem) (sz : Nat) (es : List (List V)) : lenV Try.prog m 53 (.isl sz es) = some (.int .i64 es.length) := rfl
theorem lns53 (m : Mem) (sz n off len : Nat) : lenV Try.prog m 53 (.sl sz n off len) = some (.int .i64 len) := rfl
theorem lnn53 (m : Mem) : lenV Try.prog m 53 .nils = some (.int .i64 0) := rfl
theorem lni54 (m : Mem) (sz : Nat) (es : List (List V)) : lenV Try.prog m 54 (.isl sz es) = some (.int .i64 es.length) := rfl
theorem lns54 (m : Mem) (sz n off len : Nat) : lenV Try.prog m 54 (.sl sz n off len) = some (.int .i64 len) := rfl
theorem lnn54 (m : Mem) : lenV Try.prog m 54 .nils = some (.int .i64 0) := rfl
theorem ia53 (p q : V) : iaddrV Try.prog 53 p q = iaddrS 11 p q := by cases p <;> cases q <;> rfl
theorem ia54 (p q : V) : iaddrV Try.prog 54 p q = iaddrS 1 p q := by cases p <;> cases q <;> rfl
theorem en13 : enterable Try.prog 13 = true := by kernel_rfl
theorem rs13 (env : Env) (m : Mem) : resV Try.prog Try.prog.funcs[13] env m = some (env 6) := resV_tmp rfl env m
theorem en14 : enterable Try.prog 14 = true := by kernel_rfl
theorem rs14 (env : Env) (m : Mem) : resV Try.prog Try.prog.funcs[14] env m = (loadV Try.prog m 26 (env 4)).bind fun v => some (.tup [v, env 5]) := resV_cell_tmp rfl env m
theorem ix24 (p q : V) : indexV Try.prog 24 p q = indexA 11 false 1 p q := by cases p <;> cases q <;> rfl
theorem en15 : enterable Try.prog 15 = true := by kernel_rfl
theorem rs15 (env : Env) (m : Mem) : resV Try.prog Try.prog.funcs[15] env m = some (env 2) := resV_tmp rfl env m
theorem cv3_57 (k : IntKind) (n : Int) : convV Try.prog 3 57 (.int k n) = some (.int .u64 (IntKind.u64.wrap n)) := rfl
theorem en16 : enterable Try.prog 16 = true := by kernel_rfl
theorem rs16 (env : Env) (m : Mem) : resV Try.prog Try.prog.funcs[16] env m = some (env 0) := resV_tmp rfl env m
theorem en17 : enterable Try.prog 17 = true := by kernel_rfl
theorem rs17 (env : Env) (m : Mem) : resV Try.prog Try.prog.funcs[17] env m = (loadV Try.prog m 26 (env 4)).bind fun v => some (.tup [v, env 5]) := resV_cell_tmp rfl env m
theorem en18 : enterable Try.prog 18 = true := by kernel_rfl
theorem rs18 (env : Env) (m : Mem) : resV Try.prog Try.prog.funcs[18] env m = some (env 4) := resV_tmp rfl env m
theorem en19 : enterable Try.prog 19 = true := by kernel_rfl
theorem rs19 (env : Env) (m : Mem) : resV Try.prog Try.prog.funcs[19] env m = some (env 4) := resV_tmp rfl env m
theorem en20 : enterable Try.prog 20 = true := by kernel_rfl
theorem rs20 (env : Env) (m : Mem) : resV Try.prog Try.prog.funcs[20] env m = some (env 4) := resV_tmp rfl env m
theorem en21 : enterable Try.prog 21 = true := by kernel_rfl
theorem rs21 (env : Env) (m : Mem) : resV Try.prog Try.prog.funcs[21] env m = some (env 4) := resV_tmp rfl env m
theorem en22 : enterable Try.prog 22 = true := by kernel_rfl
theorem rs22 (env : Env) (m : Mem) : resV Try.prog Try.prog.funcs[22] env m = some (env 2) := resV_tmp rfl env m
theorem en23 : enterable Try.prog 23 = true := by kernel_rfl
theorem rs23 (env : Env) (m : Mem) : resV Try.prog Try.prog.funcs[23] env m = some (env 4) := resV_tmp rfl env m
theorem en24 : enterable Try.prog 24 = true := by kernel_rfl
theorem rs24 (env : Env) (m : Mem) : resV Try.prog Try.prog.funcs[24] env m = some (env 4) := resV_tmp rfl env m
theorem en25 : enterable Try.prog 25 = true := by kernel_rfl
theorem rs25 (env : Env) (m : Mem) : resV Try.prog Try.prog.funcs[25] env m = some (env 2) := resV_tmp rfl env m
theorem en26 : enterable Try.prog 26 = true := by kernel_rfl
theorem rs26 (env : Env) (m : Mem) : resV Try.prog Try.prog.funcs[26] env m = some (env 0) := resV_tmp rfl env m
theorem en27 : enterable Try.prog 27 = true := by kernel_rfl
theorem rs27 (env : Env) (m : Mem) : resV Try.prog Try.prog.funcs[27] env m = some (env 2) := resV_tmp rfl env m
theorem en28 : enterable Try.prog 28 = true := by kernel_rfl
theorem rs28 (env : Env) (m : Mem) : resV Try.prog Try.prog.funcs[28] env m = some (env 2) := resV_tmp rfl env m
theorem en29 : enterable Try.prog 29 = true := by kernel_rfl
theorem rs29 (env : Env) (m : Mem) : resV Try.prog Try.prog.funcs[29] env m = some (.tup [env 4, env 5]) := resV_tmp_tmp rfl env m
theorem fa63_1 (p : V) : faddrV Try.prog 63 1 p = faddrK 1 p := by cases p <;> rfl
theorem ld61 (m : Mem) (p : V) : loadV Try.prog m 61 p = loadK false 1 m p := loadV_of (fun _ _ => rfl) p
theorem fa63_0 (p : V) : faddrV Try.prog 63 0 p = faddrK 0 p := by cases p <;> rfl
theorem ld60 (m : Mem) (p : V) : loadV Try.prog m 60 p = loadK false 1 m p := loadV_of (fun _ _ => rfl) p
theorem ia60 (p q : V) : iaddrV Try.prog 60 p q = iaddrS 15 p q := by cases p <;> cases q <;> rfl
theorem fa69_2 (p : V) : faddrV Try.prog 69 2 p = faddrK 12 p := by cases p <;> rfl
theorem fa63_2 (p : V) : faddrV Try.prog 63 2 p = faddrK 2 p := by cases p <;> rfl
theorem bu69 : buildV Try.prog 69 [] = some (.agg ([.int .u64 0, .int .u64 0, .int .u64 0, .int .u64 0, .int .u64 0, .int .u64 0, .int .u64 0, .int .u64 0, .int .u64 0, .int .u64 0, .int .u64 0, .int .i64 0, .int .i64 0, .bool false, .bool false])) := by kernel_rfl
theorem st69 (m : Mem) (p v : V) : storeV Try.prog 69 m p v = storeK 15 m p v := storeV_of (i := (Try.prog.info? 69).get rfl) rfl p v
theorem fa69_3 (p : V) : faddrV Try.prog 69 3 p = faddrK 13 p := by cases p <;> rfl
theorem st4 (m : Mem) (p v : V) : storeV Try.prog 4 m p v = storeK 1 m p v := storeV_of (i := (Try.prog.info? 4).get rfl) rfl p v
theorem fa69_1 (p : V) : faddrV Try.prog 69 1 p = faddrK 11 p := by cases p <;> rfl
theorem en30 : enterable Try.prog 30 = true := by kernel_rfl
theorem rs30 (env : Env) (m : Mem) : resV Try.prog Try.prog.funcs[30] env m = some (.tup [env 4, env 5]) := resV_tmp_tmp rfl env m
theorem fa66_0 (p : V) : faddrV Try.prog 66 0 p = faddrK 0 p := by cases p <;> rfl
theorem ld64 (m : Mem) (p : V) : loadV Try.prog m 64 p = loadK false 1 m p := loadV_of (fun _ _ => rfl) p
theorem ia64 (p q : V) : iaddrV Try.prog 64 p q = iaddrS 15 p q := by cases p <;> cases q <;> rfl
theorem fa72_3 (p : V) : faddrV Try.prog 72 3 p = faddrK 13 p := by cases p <;> rfl
theorem fa66_1 (p : V) : faddrV Try.prog 66 1 p = faddrK 1 p := by cases p <;> rfl
theorem bu72 : buildV Try.prog 72 [] = some (.agg ([.bool false, .int .u64 0, .int .u64 0, .int .u64 0, .int .u64 0, .int .u64 0, .int .u64 0, .int .u64 0, .int .u64 0, .int .u64 0, .int .u64 0, .int .u64 0, .int .i64 0, .int .i64 0, .bool false])) := by kernel_rfl
theorem st72 (m : Mem) (p v : V) : storeV Try.prog 72 m p v = storeK 15 m p v := storeV_of (i := (Try.prog.info? 72).get rfl) rfl p v
theorem fa72_4 (p : V) : faddrV Try.prog 72 4 p = faddrK 14 p := by cases p <;> rfl
theorem fa72_2 (p : V) : faddrV Try.prog 72 2 p = faddrK 12 p := by cases p <;> rfl
theorem en31 : enterable Try.prog 31 = true := by kernel_rfl
theorem lni60 (m : Mem) (sz : Nat) (es : List (List V)) : lenV Try.prog m 60 (.isl sz es) = some (.int .i64 es.length) := rfl
theorem lns60 (m : Mem) (sz n off len : Nat) : lenV Try.prog m 60 (.sl sz n off len) = some (.int .i64 len) := rfl
theorem lnn60 (m : Mem) : lenV Try.prog m 60 .nils = some (.int .i64 0) := rfl
theorem st3 (m : Mem) (p v : V) : storeV Try.prog 3 m p v = storeK 1 m p v := storeV_of (i := (Try.prog.info? 3).get rfl) rfl p v
theorem en32 : enterable Try.prog 32 = true := by kernel_rfl
theorem lni64 (m : Mem) (sz : Nat) (es : List (List V)) : lenV Try.prog m 64 (.isl sz es) = some (.int .i64 es.length) := rfl
theorem lns64 (m : Mem) (sz n off len : Nat) : lenV Try.prog m 64 (.sl sz n off len) = some (.int .i64 len) := rfl
theorem lnn64 (m : Mem) : lenV Try.prog m 64 .nils = some (.int .i64 0) := rfl
theorem al72 (m : Mem) : allocV Try.prog 72 m = some (.ptr m.length 0, m ++ [.var 72 ([.bool false, .int .u64 0, .int .u64 0, .int .u64 0, .int .u64 0, .int .u64 0, .int .u64 0, .int .u64 0, .int .u64 0, .int .u64 0, .int .u64 0, .int .u64 0, .int .i64 0, .int .i64 0, .bool false])]) := by kernel_rfl
theorem fa72_0 (p : V) : faddrV Try.prog 72 0 p = faddrK 0 p := by cases p <;> rfl
theorem ld4 (m : Mem) (p : V) : loadV Try.prog m 4 p = loadK false 1 m p := loadV_of (fun _ _ => rfl) p
theorem ld72 (m : Mem) (p : V) : loadV Try.prog m 72 p = loadK true 15 m p := loadV_of (fun _ _ => rfl) p
theorem fa66_2 (p : V) : faddrV Try.prog 66 2 p = faddrK 2 p := by cases p <;> rfl
theorem en33 : enterable Try.prog 33 = true := by kernel_rfl
theorem en34 : enterable Try.prog 34 = true := by kernel_rfl
theorem en35 : enterable Try.prog 35 = true := by kernel_rfl
theorem rs35 (env : Env) (m : Mem) : resV Try.prog Try.prog.funcs[35] env m = some (env 2) := resV_tmp rfl env m
theorem ld69 (m : Mem) (p : V) : loadV Try.prog m 69 p = loadK true 15 m p := loadV_of (fun _ _ => rfl) p
theorem al69 (m : Mem) : allocV Try.prog 69 m = some (.ptr m.length 0, m ++ [.var 69 ([.int .u64 0, .int .u64 0, .int .u64 0, .int .u64 0, .int .u64 0, .int .u64 0, .int .u64 0, .int .u64 0, .int .u64 0, .int .u64 0, .int .u64 0, .int .i64 0, .int .i64 0, .bool false, .bool false])]) := by kernel_rfl
theorem fa69_4 (p : V) : faddrV Try.prog 69 4 p = faddrK 14 p := by cases p <;> rfl
theorem en36 : enterable Try.prog 36 = true := by kernel_rfl
theorem rs36 (env : Env) (m : Mem) : resV Try.prog Try.prog.funcs[36] env m = some (env 2) := resV_tmp rfl env m
theorem en37 : enterable Try.prog 37 = true := by kernel_rfl
theorem rs37 (env : Env) (m : Mem) : resV Try.prog Try.prog.funcs[37] env m = some (env 2) := resV_tmp rfl env m
theorem ix73 (p q : V) : indexV Try.prog 73 p q = indexA 11 false 1 p q := by cases p <;> cases q <;> rfl
theorem en38 : enterable Try.prog 38 = true := by kernel_rfl
theorem rs38 (env : Env) (m : Mem) : resV Try.prog Try.prog.funcs[38] env m = loadV Try.prog m 26 (env 4) := resV_cell rfl env m
theorem en39 : enterable Try.prog 39 = true := by kernel_rfl
theorem rs39 (env : Env) (m : Mem) : resV Try.prog Try.prog.funcs[39] env m = loadV Try.prog m 24 (env 2) := resV_cell rfl env m
theorem al24 (m : Mem) : allocV Try.prog 24 m = some (.ptr m.length 0, m ++ [.var 24 (cl .u64 11 fun _ => 0)]) := by kernel_rfl
theorem cv3_22 (k : IntKind) (n : Int) : convV Try.prog 3 22 (.int k n) = some (.int .u64 (IntKind.u64.wrap n)) := rfl
theorem st24 (m : Mem) (p v : V) : storeV Try.prog 24 m p v = storeK 11 m p v := storeV_of (i := (Try.prog.info? 24).get rfl) rfl p v
theorem en40 : enterable Try.prog 40 = true := by kernel_rfl
theorem rs40 (env : Env) (m : Mem) : resV Try.prog Try.prog.funcs[40] env m = some (env 4) := resV_tmp rfl env m
theorem fa72_1 (p : V) : faddrV Try.prog 72 1 p = faddrK 1 p := by cases p <;> rfl
theorem en41 : enterable Try.prog 41 = true := by kernel_rfl
theorem rs41 (env : Env) (m : Mem) : resV Try.prog Try.prog.funcs[41] env m = some (env 2) := resV_tmp rfl env m
theorem fa63_3 (p : V) : faddrV Try.prog 63 3 p = faddrK 3 p := by cases p <;> rfl
theorem fa69_0 (p : V) : faddrV Try.prog 69 0 p = faddrK 0 p := by cases p <;> rfl
theorem en42 : enterable Try.prog 42 = true := by kernel_rfl
theorem rs42 (env : Env) (m : Mem) : resV Try.prog Try.prog.funcs[42] env m = loadV Try.prog m 73 (env 0) := resV_cell rfl env m
theorem al73 (m : Mem) : allocV Try.prog 73 m = some (.ptr m.length 0, m ++ [.var 73 (cl .i64 11 fun _ => 0)]) := by kernel_rfl
theorem st73 (m : Mem) (p v : V) : storeV Try.prog 73 m p v = storeK 11 m p v := storeV_of (i := (Try.prog.info? 73).get rfl) rfl p v
theorem ld73 (m : Mem) (p : V) : loadV Try.prog m 73 p = loadK true 11 m p := loadV_of (fun _ _ => rfl) p
end Go.Proofs.Ytnhejkfbnjopjaa
