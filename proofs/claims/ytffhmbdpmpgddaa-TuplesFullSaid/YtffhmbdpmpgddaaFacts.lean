/- Facts on the program's types. No condition. -/
import Derived.Test.YtffhmbdpmpgddaaAm7
import Derived.Test.YtffhmbdpmpgddaaProg
namespace Go.Proofs.Ytffhmbdpmpgddaa
open Go Ab
set_option linter.unusedSimpArgs false
set_option linter.unusedVariables false
set_option maxRecDepth 20000
theorem fol : Try.prog.follows .mixedOrders = true := by kernel_rfl
theorem en2 : enterable Try.prog 2 = true := by kernel_rfl
theorem en3 : enterable Try.prog 3 = true := by kernel_rfl
theorem rs3 (env : Env) (m : Mem) : resV Try.prog Try.prog.funcs[3] env m = some (env 4) := resV_tmp rfl env m
theorem lni22 (m : Mem) (sz : Nat) (es : List (List V)) : lenV Try.prog m 22 (.isl sz es) = some (.int .i64 es.length) := rfl
theorem lns22 (m : Mem) (sz n off len : Nat) : lenV Try.prog m 22 (.sl sz n off len) = some (.int .i64 len) := rfl
theorem lnn22 (m : Mem) : lenV Try.prog m 22 .nils = some (.int .i64 0) := rfl
theorem ia22 (p q : V) : iaddrV Try.prog 22 p q = iaddrS 25 p q := by cases p <;> cases q <;> rfl
theorem ld32 (m : Mem) (p : V) : loadV Try.prog m 32 p = loadK true 25 m p := loadV_of (fun _ _ => rfl) p
theorem al32 (m : Mem) : allocV Try.prog 32 m = some (.ptr m.length 0, m ++ [.var 32 ([.int .i64 0, .int .u64 0, .int .u64 0, .int .u64 0, .int .u64 0, .int .u64 0, .int .u64 0, .int .u64 0, .int .u64 0, .int .u64 0, .int .u64 0, .int .u64 0, .int .u64 0, .int .u64 0, .int .u64 0, .int .u64 0, .int .u64 0, .int .u64 0, .int .u64 0, .int .u64 0, .int .u64 0, .int .u64 0, .int .u64 0, .nils, .int .u64 0])]) := by kernel_rfl
theorem st32 (m : Mem) (p v : V) : storeV Try.prog 32 m p v = storeK 25 m p v := storeV_of (i := (Try.prog.info? 32).get rfl) rfl p v
theorem ld25 (m : Mem) (p : V) : loadV Try.prog m 25 p = loadK true 11 m p := loadV_of (fun _ _ => rfl) p
theorem fa32_1 (p : V) : faddrV Try.prog 32 1 p = faddrK 1 p := by cases p <;> rfl
theorem ld29 (m : Mem) (p : V) : loadV Try.prog m 29 p = loadK true 22 m p := loadV_of (fun _ _ => rfl) p
theorem fa32_0 (p : V) : faddrV Try.prog 32 0 p = faddrK 0 p := by cases p <;> rfl
theorem ld3 (m : Mem) (p : V) : loadV Try.prog m 3 p = loadK false 1 m p := loadV_of (fun _ _ => rfl) p
theorem en4 : enterable Try.prog 4 = true := by kernel_rfl
theorem rs4 (env : Env) (m : Mem) : resV Try.prog Try.prog.funcs[4] env m = some (env 2) := resV_tmp rfl env m
theorem bu45 : buildV Try.prog 45 [] = some (.agg ([.nils, .int .i64 0])) := by kernel_rfl
theorem lni41 (m : Mem) (sz : Nat) (es : List (List V)) : lenV Try.prog m 41 (.isl sz es) = some (.int .i64 es.length) := rfl
theorem lns41 (m : Mem) (sz n off len : Nat) : lenV Try.prog m 41 (.sl sz n off len) = some (.int .i64 len) := rfl
theorem lnn41 (m : Mem) : lenV Try.prog m 41 .nils = some (.int .i64 0) := rfl
theorem ia41 (p q : V) : iaddrV Try.prog 41 p q = iaddrS 38 p q := by cases p <;> cases q <;> rfl
theorem ld47 (m : Mem) (p : V) : loadV Try.prog m 47 p = loadK true 38 m p := loadV_of (fun _ _ => rfl) p
theorem al47 (m : Mem) : allocV Try.prog 47 m = some (.ptr m.length 0, m ++ [.var 47 ([.int .i64 0, .int .i64 0, .int .u64 0, .int .u64 0, .int .u64 0, .int .u64 0, .int .u64 0, .int .u64 0, .int .u64 0, .int .u64 0, .int .u64 0, .int .u64 0, .int .u64 0, .int .u64 0, .int .u64 0, .int .u64 0, .int .u64 0, .int .u64 0, .int .u64 0, .int .u64 0, .int .u64 0, .int .u64 0, .int .u64 0, .int .u64 0, .nils, .int .u64 0, .int .i64 0, .int .u64 0, .int .u64 0, .int .u64 0, .int .u64 0, .int .u64 0, .int .u64 0, .int .u64 0, .int .u64 0, .int .u64 0, .int .u64 0, .int .u64 0])]) := by kernel_rfl
theorem st47 (m : Mem) (p v : V) : storeV Try.prog 47 m p v = storeK 38 m p v := storeV_of (i := (Try.prog.info? 47).get rfl) rfl p v
theorem fa47_0 (p : V) : faddrV Try.prog 47 0 p = faddrK 0 p := by cases p <;> rfl
theorem fa47_1 (p : V) : faddrV Try.prog 47 1 p = faddrK 1 p := by cases p <;> rfl
theorem fa47_2 (p : V) : faddrV Try.prog 47 2 p = faddrK 26 p := by cases p <;> rfl
theorem eqb4 : isBoolT Try.prog 4 = true := by kernel_rfl
theorem fa47_3 (p : V) : faddrV Try.prog 47 3 p = faddrK 27 p := by cases p <;> rfl
theorem en5 : enterable Try.prog 5 = true := by kernel_rfl
theorem rs5 (env : Env) (m : Mem) : resV Try.prog Try.prog.funcs[5] env m = some (env 6) := resV_tmp rfl env m
theorem en6 : enterable Try.prog 6 = true := by kernel_rfl
theorem rs6 (env : Env) (m : Mem) : resV Try.prog Try.prog.funcs[6] env m = some (env 0) := resV_tmp rfl env m
theorem bu32 : buildV Try.prog 32 [] = some (.agg ([.int .i64 0, .int .u64 0, .int .u64 0, .int .u64 0, .int .u64 0, .int .u64 0, .int .u64 0, .int .u64 0, .int .u64 0, .int .u64 0, .int .u64 0, .int .u64 0, .int .u64 0, .int .u64 0, .int .u64 0, .int .u64 0, .int .u64 0, .int .u64 0, .int .u64 0, .int .u64 0, .int .u64 0, .int .u64 0, .int .u64 0, .nils, .int .u64 0])) := by kernel_rfl
theorem en7 : enterable Try.prog 7 = true := by kernel_rfl
theorem rs7 (env : Env) (m : Mem) : resV Try.prog Try.prog.funcs[7] env m = some (env 0) := resV_tmp rfl env m
theorem en8 : enterable Try.prog 8 = true := by kernel_rfl
theorem rs8 (env : Env) (m : Mem) : resV Try.prog Try.prog.funcs[8] env m = some (.tup [env 4, env 5]) := resV_tmp_tmp rfl env m
theorem fa55_1 (p : V) : faddrV Try.prog 55 1 p = faddrK 1 p := by cases p <;> rfl
theorem ld52 (m : Mem) (p : V) : loadV Try.prog m 52 p = loadK false 1 m p := loadV_of (fun _ _ => rfl) p
theorem fa55_2 (p : V) : faddrV Try.prog 55 2 p = faddrK 2 p := by cases p <;> rfl
theorem st3 (m : Mem) (p v : V) : storeV Try.prog 3 m p v = storeK 1 m p v := storeV_of (i := (Try.prog.info? 3).get rfl) rfl p v
theorem fa32_2 (p : V) : faddrV Try.prog 32 2 p = faddrK 23 p := by cases p <;> rfl
theorem st30 (m : Mem) (p v : V) : storeV Try.prog 30 m p v = storeK 1 m p v := storeV_of (i := (Try.prog.info? 30).get rfl) rfl p v
theorem fa55_0 (p : V) : faddrV Try.prog 55 0 p = faddrK 0 p := by cases p <;> rfl
theorem ld53 (m : Mem) (p : V) : loadV Try.prog m 53 p = loadK false 1 m p := loadV_of (fun _ _ => rfl) p
theorem lni53 (m : Mem) (sz : Nat) (es : List (List V)) : lenV Try.prog m 53 (.isl sz es) = some (.int .i64 es.length) := rfl
theorem lns53 (m : Mem) (sz n off len : Nat) : lenV Try.prog m 53 (.sl sz n off len) = some (.int .i64 len) := rfl
theorem lnn53 (m : Mem) : lenV Try.prog m 53 .nils = some (.int .i64 0) := rfl
theorem fa29_1 (p : V) : faddrV Try.prog 29 1 p = faddrK 11 p := by cases p <;> rfl
theorem st53 (m : Mem) (p v : V) : storeV Try.prog 53 m p v = storeK 1 m p v := storeV_of (i := (Try.prog.info? 53).get rfl) rfl p v
theorem ia53 (p q : V) : iaddrV Try.prog 53 p q = iaddrS 1 p q := by cases p <;> cases q <;> rfl
theorem ld58 (m : Mem) (p : V) : loadV Try.prog m 58 p = loadK false 1 m p := loadV_of (fun _ _ => rfl) p
theorem fa61_1 (p : V) : faddrV Try.prog 61 1 p = faddrK 11 p := by cases p <;> rfl
theorem ld59 (m : Mem) (p : V) : loadV Try.prog m 59 p = loadK false 1 m p := loadV_of (fun _ _ => rfl) p
theorem fa29_0 (p : V) : faddrV Try.prog 29 0 p = faddrK 0 p := by cases p <;> rfl
theorem fa61_2 (p : V) : faddrV Try.prog 61 2 p = faddrK 12 p := by cases p <;> rfl
theorem fa61_3 (p : V) : faddrV Try.prog 61 3 p = faddrK 13 p := by cases p <;> rfl
theorem en9 : enterable Try.prog 9 = true := by kernel_rfl
theorem rs9 (env : Env) (m : Mem) : resV Try.prog Try.prog.funcs[9] env m = some (.tup [env 4, env 5]) := resV_tmp_tmp rfl env m
theorem al65 (m : Mem) : allocV Try.prog 65 m = some (.ptr m.length 0, m ++ [.var 65 (cl .i64 2 fun _ => 0)]) := by kernel_rfl
theorem fa65_0 (p : V) : faddrV Try.prog 65 0 p = faddrK 0 p := by cases p <;> rfl
theorem fa65_1 (p : V) : faddrV Try.prog 65 1 p = faddrK 1 p := by cases p <;> rfl
theorem fa61_0 (p : V) : faddrV Try.prog 61 0 p = faddrK 0 p := by cases p <;> rfl
theorem lni63 (m : Mem) (sz : Nat) (es : List (List V)) : lenV Try.prog m 63 (.isl sz es) = some (.int .i64 es.length) := rfl
theorem lns63 (m : Mem) (sz n off len : Nat) : lenV Try.prog m 63 (.sl sz n off len) = some (.int .i64 len) := rfl
theorem lnn63 (m : Mem) : lenV Try.prog m 63 .nils = some (.int .i64 0) := rfl
theorem ia63 (p q : V) : iaddrV Try.prog 63 p q = iaddrS 2 p q := by cases p <;> cases q <;> rfl
theorem ld65 (m : Mem) (p : V) : loadV Try.prog m 65 p = loadK true 2 m p := loadV_of (fun _ _ => rfl) p
theorem st65 (m : Mem) (p v : V) : storeV Try.prog 65 m p v = storeK 2 m p v := storeV_of (i := (Try.prog.info? 65).get rfl) rfl p v
theorem en10 : enterable Try.prog 10 = true := by kernel_rfl
theorem rs10 (env : Env) (m : Mem) : resV Try.prog Try.prog.funcs[10] env m = some (env 4) := resV_tmp rfl env m
theorem ix25 (p q : V) : indexV Try.prog 25 p q = indexA 11 false 1 p q := by cases p <;> cases q <;> rfl
theorem ia25 (p q : V) : iaddrV Try.prog 25 p q = iaddrA 11 1 p q := by cases p <;> cases q <;> rfl
theorem ld23 (m : Mem) (p : V) : loadV Try.prog m 23 p = loadK false 1 m p := loadV_of (fun _ _ => rfl) p
theorem en11 : enterable Try.prog 11 = true := by kernel_rfl
theorem rs11 (env : Env) (m : Mem) : resV Try.prog Try.prog.funcs[11] env m = some (env 0) := resV_tmp rfl env m
theorem en12 : enterable Try.prog 12 = true := by kernel_rfl
theorem rs12 (env : Env) (m : Mem) : resV Try.prog Try.prog.funcs[12] env m = some (.tup [env 4, env 5]) := resV_tmp_tmp rfl env m
theorem fa45_0 (p : V) : faddrV Try.prog 45 0 p = faddrK 0 p := by cases p <;> rfl
theorem ld43 (m : Mem) (p : V) : loadV Try.prog m 43 p = loadK false 1 m p := loadV_of (fun _ _ => rfl) p
theorem lni43 (m : Mem) (sz : Nat) (es : List (List V)) : lenV Try.prog m 43 (.isl sz es) = some (.int .i64 es.length) := rfl
theorem lns43 (m : Mem) (sz n off len : Nat) : lenV Try.prog m 43 (.sl sz n off len) = some (.int .i64 len) := rfl
theorem lnn43 (m : Mem) : lenV Try.prog m 43 .nils = some (.int .i64 0) := rfl
theorem fa45_1 (p : V) : faddrV Try.prog 45 1 p = faddrK 1 p := by cases p <;> rfl
theorem st43 (m : Mem) (p v : V) : storeV Try.prog 43 m p v = storeK 1 m p v := storeV_of (i := (Try.prog.info? 43).get rfl) rfl p v
theorem en13 : enterable Try.prog 13 = true := by kernel_rfl
theorem rs13 (env : Env) (m : Mem) : resV Try.prog Try.prog.funcs[13] env m = some (env 4) := resV_tmp rfl env m
theorem en14 : enterable Try.prog 14 = true := by kernel_rfl
theorem rs14 (env : Env) (m : Mem) : resV Try.prog Try.prog.funcs[14] env m = some (env 4) := resV_tmp rfl env m
theorem ia43 (p q : V) : iaddrV Try.prog 43 p q = iaddrS 26 p q := by cases p <;> cases q <;> rfl
theorem fa72_0 (p : V) : faddrV Try.prog 72 0 p = faddrK 0 p := by cases p <;> rfl
theorem ld72 (m : Mem) (p : V) : loadV Try.prog m 72 p = loadK true 26 m p := loadV_of (fun _ _ => rfl) p
theorem en15 : enterable Try.prog 15 = true := by kernel_rfl
theorem rs15 (env : Env) (m : Mem) : resV Try.prog Try.prog.funcs[15] env m = some (.tup [env 4, env 5]) := resV_tmp_tmp rfl env m
theorem fa72_1 (p : V) : faddrV Try.prog 72 1 p = faddrK 1 p := by cases p <;> rfl
theorem en16 : enterable Try.prog 16 = true := by kernel_rfl
theorem rs16 (env : Env) (m : Mem) : resV Try.prog Try.prog.funcs[16] env m = some (env 2) := resV_tmp rfl env m
theorem en17 : enterable Try.prog 17 = true := by kernel_rfl
theorem rs17 (env : Env) (m : Mem) : resV Try.prog Try.prog.funcs[17] env m = some (env 2) := resV_tmp rfl env m
theorem ea25 (f g : Nat → Int) (hf : inK .u64 11 f) (hg : inK .u64 11 g) : eqV Try.prog 25 (.agg (cl .u64 11 f)) (.agg (cl .u64 11 g)) = some (eqN 11 f g) := eqV_cl2 (by kernel_rfl) (by kernel_rfl) hf hg
theorem en18 : enterable Try.prog 18 = true := by kernel_rfl
theorem rs18 (env : Env) (m : Mem) : resV Try.prog Try.prog.funcs[18] env m = some (env 2) := resV_tmp rfl env m
theorem cv3_79 (k : IntKind) (n : Int) : convV Try.prog 3 79 (.int k n) = some (.int .i8 (IntKind.i8.wrap n)) := rfl
theorem cv3_77 (k : IntKind) (n : Int) : convV Try.prog 3 77 (.int k n) = some (.int .u64 (IntKind.u64.wrap n)) := rfl
theorem en19 : enterable Try.prog 19 = true := by kernel_rfl
theorem rs19 (env : Env) (m : Mem) : resV Try.prog Try.prog.funcs[19] env m = some (env 4) := resV_tmp rfl env m
theorem en20 : enterable Try.prog 20 = true := by kernel_rfl
theorem rs20 (env : Env) (m : Mem) : resV Try.prog Try.prog.funcs[20] env m = some (env 3) := resV_tmp rfl env m
theorem en21 : enterable Try.prog 21 = true := by kernel_rfl
theorem en22 : enterable Try.prog 22 = true := by kernel_rfl
theorem rs22 (env : Env) (m : Mem) : resV Try.prog Try.prog.funcs[22] env m = some (env 4) := resV_tmp rfl env m
theorem en23 : enterable Try.prog 23 = true := by kernel_rfl
theorem rs23 (env : Env) (m : Mem) : resV Try.prog Try.prog.funcs[23] env m = some (env 2) := resV_tmp rfl env m
theorem lni80 (m : Mem) (sz : Nat) (es : List (List V)) : lenV Try.prog m 80 (.isl sz es) = some (.int .i64 es.length) := rfl
theorem lns80 (m : Mem) (sz n off len : Nat) : lenV Try.prog m 80 (.sl sz n off len) = some (.int .i64 len) := rfl
theorem lnn80 (m : Mem) : lenV Try.prog m 80 .nils = some (.int .i64 0) := rfl
theorem ia80 (p q : V) : iaddrV Try.prog 80 p q = iaddrS 1 p q := by cases p <;> cases q <;> rfl
theorem en24 : enterable Try.prog 24 = true := by kernel_rfl
theorem rs24 (env : Env) (m : Mem) : resV Try.prog Try.prog.funcs[24] env m = some (env 4) := resV_tmp rfl env m
theorem en25 : enterable Try.prog 25 = true := by kernel_rfl
theorem en26 : enterable Try.prog 26 = true := by kernel_rfl
theorem rs26 (env : Env) (m : Mem) : resV Try.prog Try.prog.funcs[26] env m = loadV Try.prog m 25 (env 4) := resV_cell rfl env m
theorem al25 (m : Mem) : allocV Try.prog 25 m = some (.ptr m.length 0, m ++ [.var 25 (cl .u64 11 fun _ => 0)]) := by kernel_rfl
theorem st23 (m : Mem) (p v : V) : storeV Try.prog 23 m p v = storeK 1 m p v := storeV_of (i := (Try.prog.info? 23).get rfl) rfl p v
theorem st25 (m : Mem) (p v : V) : storeV Try.prog 25 m p v = storeK 11 m p v := storeV_of (i := (Try.prog.info? 25).get rfl) rfl p v
theorem en27 : enterable Try.prog 27 = true := by kernel_rfl
theorem rs27 (env : Env) (m : Mem) : resV Try.prog Try.prog.funcs[27] env m = some (env 2) := resV_tmp rfl env m
theorem en28 : enterable Try.prog 28 = true := by kernel_rfl
theorem rs28 (env : Env) (m : Mem) : resV Try.prog Try.prog.funcs[28] env m = some (env 3) := resV_tmp rfl env m
theorem en29 : enterable Try.prog 29 = true := by kernel_rfl
theorem rs29 (env : Env) (m : Mem) : resV Try.prog Try.prog.funcs[29] env m = some (env 4) := resV_tmp rfl env m
theorem en30 : enterable Try.prog 30 = true := by kernel_rfl
theorem rs30 (env : Env) (m : Mem) : resV Try.prog Try.prog.funcs[30] env m = some (env 3) := resV_tmp rfl env m
theorem en31 : enterable Try.prog 31 = true := by kernel_rfl
theorem rs31 (env : Env) (m : Mem) : resV Try.prog Try.prog.funcs[31] env m = some (env 6) := resV_tmp rfl env m
theorem en32 : enterable Try.prog 32 = true := by kernel_rfl
theorem rs32 (env : Env) (m : Mem) : resV Try.prog Try.prog.funcs[32] env m = some (env 4) := resV_tmp rfl env m
theorem en33 : enterable Try.prog 33 = true := by kernel_rfl
theorem rs33 (env : Env) (m : Mem) : resV Try.prog Try.prog.funcs[33] env m = some (env 2) := resV_tmp rfl env m
theorem ix84 (p q : V) : indexV Try.prog 84 p q = indexA 11 false 1 p q := by cases p <;> cases q <;> rfl
theorem en34 : enterable Try.prog 34 = true := by kernel_rfl
theorem en35 : enterable Try.prog 35 = true := by kernel_rfl
theorem rs35 (env : Env) (m : Mem) : resV Try.prog Try.prog.funcs[35] env m = some (env 2) := resV_tmp rfl env m
theorem en36 : enterable Try.prog 36 = true := by kernel_rfl
theorem en37 : enterable Try.prog 37 = true := by kernel_rfl
theorem rs37 (env : Env) (m : Mem) : resV Try.prog Try.prog.funcs[37] env m = some (env 4) := resV_tmp rfl env m
theorem en38 : enterable Try.prog 38 = true := by kernel_rfl
theorem rs38 (env : Env) (m : Mem) : resV Try.prog Try.prog.funcs[38] env m = some (env 2) := resV_tmp rfl env m
theorem en39 : enterable Try.prog 39 = true := by kernel_rfl
theorem rs39 (env : Env) (m : Mem) : resV Try.prog Try.prog.funcs[39] env m = some (env 4) := resV_tmp rfl env m
theorem en40 : enterable Try.prog 40 = true := by kernel_rfl
theorem rs40 (env : Env) (m : Mem) : resV Try.prog Try.prog.funcs[40] env m = loadV Try.prog m 84 (env 0) := resV_cell rfl env m
theorem al84 (m : Mem) : allocV Try.prog 84 m = some (.ptr m.length 0, m ++ [.var 84 (cl .i64 11 fun _ => 0)]) := by kernel_rfl
theorem st84 (m : Mem) (p v : V) : storeV Try.prog 84 m p v = storeK 11 m p v := storeV_of (i := (Try.prog.info? 84).get rfl) rfl p v
theorem ld84 (m : Mem) (p : V) : loadV Try.prog m 84 p = loadK true 11 m p := loadV_of (fun _ _ => rfl) p
theorem en41 : enterable Try.prog 41 = true := by kernel_rfl
theorem en42 : enterable Try.prog 42 = true := by kernel_rfl
theorem en43 : enterable Try.prog 43 = true := by kernel_rfl
theorem en44 : enterable Try.prog 44 = true := by kernel_rfl
theorem cv77_3 (k : IntKind) (n : Int) : convV Try.prog 77 3 (.int k n) = some (.int .i64 (IntKind.i64.wrap n)) := rfl
theorem en45 : enterable Try.prog 45 = true := by kernel_rfl
theorem en46 : enterable Try.prog 46 = true := by kernel_rfl
theorem en47 : enterable Try.prog 47 = true := by kernel_rfl
theorem st58 (m : Mem) (p v : V) : storeV Try.prog 58 m p v = storeK 1 m p v := storeV_of (i := (Try.prog.info? 58).get rfl) rfl p v
theorem en48 : enterable Try.prog 48 = true := by kernel_rfl
theorem en49 : enterable Try.prog 49 = true := by kernel_rfl
theorem en50 : enterable Try.prog 50 = true := by kernel_rfl
theorem en51 : enterable Try.prog 51 = true := by kernel_rfl
end Go.Proofs.Ytffhmbdpmpgddaa
