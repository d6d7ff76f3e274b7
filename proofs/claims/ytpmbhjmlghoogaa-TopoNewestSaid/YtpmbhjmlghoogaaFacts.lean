/- Facts on the program's types. No condition. -/
import Derived.Test.YtpmbhjmlghoogaaAm7
import Derived.Test.YtpmbhjmlghoogaaProg
namespace Go.Proofs.Ytpmbhjmlghoogaa
open Go Ab
set_option linter.unusedSimpArgs false
set_option linter.unusedVariables false
set_option maxRecDepth 20000
theorem fol : Try.prog.follows .mixedOrders = true := by kernel_rfl
theorem en2 : enterable Try.prog 2 = true := by kernel_rfl
theorem en3 : enterable Try.prog 3 = true := by kernel_rfl
theorem rs3 (env : Env) (m : Mem) : resV Try.prog Try.prog.funcs[3] env m = some (env 6) := resV_tmp rfl env m
theorem lni23 (m : Mem) (sz : Nat) (es : List (List V)) : lenV Try.prog m 23 (.isl sz es) = some (.int .i64 es.length) := rfl
theorem lns23 (m : Mem) (sz n off len : Nat) : lenV Try.prog m 23 (.sl sz n off len) = some (.int .i64 len) := rfl
theorem lnn23 (m : Mem) : lenV Try.prog m 23 .nils = some (.int .i64 0) := rfl
theorem ia23 (p q : V) : iaddrV Try.prog 23 p q = iaddrS 11 p q := by cases p <;> cases q <;> rfl
theorem ld33 (m : Mem) (p : V) : loadV Try.prog m 33 p = loadK true 11 m p := loadV_of (fun _ _ => rfl) p
theorem al33 (m : Mem) : allocV Try.prog 33 m = some (.ptr m.length 0, m ++ [.var 33 ([.int .i64 0, .int .u16 0, .int .u16 0, .int .u16 0, .int .u16 0, .nils, .nils, .bool false, .nils, .int .u64 0, .int .i64 0])]) := by kernel_rfl
theorem st33 (m : Mem) (p v : V) : storeV Try.prog 33 m p v = storeK 11 m p v := storeV_of (i := (Try.prog.info? 33).get rfl) rfl p v
theorem fa33_0 (p : V) : faddrV Try.prog 33 0 p = faddrK 0 p := by cases p <;> rfl
theorem ld3 (m : Mem) (p : V) : loadV Try.prog m 3 p = loadK false 1 m p := loadV_of (fun _ _ => rfl) p
theorem fa33_7 (p : V) : faddrV Try.prog 33 7 p = faddrK 9 p := by cases p <;> rfl
theorem ld22 (m : Mem) (p : V) : loadV Try.prog m 22 p = loadK false 1 m p := loadV_of (fun _ _ => rfl) p
theorem st22 (m : Mem) (p v : V) : storeV Try.prog 22 m p v = storeK 1 m p v := storeV_of (i := (Try.prog.info? 22).get rfl) rfl p v
theorem fa33_1 (p : V) : faddrV Try.prog 33 1 p = faddrK 1 p := by cases p <;> rfl
theorem ld30 (m : Mem) (p : V) : loadV Try.prog m 30 p = loadK true 2 m p := loadV_of (fun _ _ => rfl) p
theorem lni36 (m : Mem) (sz : Nat) (es : List (List V)) : lenV Try.prog m 36 (.isl sz es) = some (.int .i64 es.length) := rfl
theorem lns36 (m : Mem) (sz n off len : Nat) : lenV Try.prog m 36 (.sl sz n off len) = some (.int .i64 len) := rfl
theorem lnn36 (m : Mem) : lenV Try.prog m 36 .nils = some (.int .i64 0) := rfl
theorem en4 : enterable Try.prog 4 = true := by kernel_rfl
theorem rs4 (env : Env) (m : Mem) : resV Try.prog Try.prog.funcs[4] env m = some (env 8) := resV_tmp rfl env m
theorem lni40 (m : Mem) (sz : Nat) (es : List (List V)) : lenV Try.prog m 40 (.isl sz es) = some (.int .i64 es.length) := rfl
theorem lns40 (m : Mem) (sz n off len : Nat) : lenV Try.prog m 40 (.sl sz n off len) = some (.int .i64 len) := rfl
theorem lnn40 (m : Mem) : lenV Try.prog m 40 .nils = some (.int .i64 0) := rfl
theorem ia40 (p q : V) : iaddrV Try.prog 40 p q = iaddrS 36 p q := by cases p <;> cases q <;> rfl
theorem fa53_9 (p : V) : faddrV Try.prog 53 9 p = faddrK 33 p := by cases p <;> rfl
theorem ld31 (m : Mem) (p : V) : loadV Try.prog m 31 p = loadK false 1 m p := loadV_of (fun _ _ => rfl) p
theorem eqb4 : isBoolT Try.prog 4 = true := by kernel_rfl
theorem en5 : enterable Try.prog 5 = true := by kernel_rfl
theorem rs5 (env : Env) (m : Mem) : resV Try.prog Try.prog.funcs[5] env m = some (env 8) := resV_tmp rfl env m
theorem al30 (m : Mem) : allocV Try.prog 30 m = some (.ptr m.length 0, m ++ [.var 30 (cl .u16 2 fun _ => 0)]) := by kernel_rfl
theorem st30 (m : Mem) (p v : V) : storeV Try.prog 30 m p v = storeK 2 m p v := storeV_of (i := (Try.prog.info? 30).get rfl) rfl p v
theorem al60 (m : Mem) : allocV Try.prog 60 m = some (.ptr m.length 0, m ++ [.var 60 ([.int .u64 0, .int .u64 0, .int .u64 0, .int .u64 0, .int .u64 0, .int .u64 0, .int .u64 0, .int .u64 0, .int .u64 0, .int .u64 0, .int .u64 0, .nils])]) := by kernel_rfl
theorem st60 (m : Mem) (p v : V) : storeV Try.prog 60 m p v = storeK 12 m p v := storeV_of (i := (Try.prog.info? 60).get rfl) rfl p v
theorem ld60 (m : Mem) (p : V) : loadV Try.prog m 60 p = loadK true 12 m p := loadV_of (fun _ _ => rfl) p
theorem en6 : enterable Try.prog 6 = true := by kernel_rfl
theorem rs6 (env : Env) (m : Mem) : resV Try.prog Try.prog.funcs[6] env m = some (env 4) := resV_tmp rfl env m
theorem fa30_0 (p : V) : faddrV Try.prog 30 0 p = faddrK 0 p := by cases p <;> rfl
theorem ld27 (m : Mem) (p : V) : loadV Try.prog m 27 p = loadK false 1 m p := loadV_of (fun _ _ => rfl) p
theorem lni31 (m : Mem) (sz : Nat) (es : List (List V)) : lenV Try.prog m 31 (.isl sz es) = some (.int .i64 es.length) := rfl
theorem lns31 (m : Mem) (sz n off len : Nat) : lenV Try.prog m 31 (.sl sz n off len) = some (.int .i64 len) := rfl
theorem lnn31 (m : Mem) : lenV Try.prog m 31 .nils = some (.int .i64 0) := rfl
theorem en7 : enterable Try.prog 7 = true := by kernel_rfl
theorem rs7 (env : Env) (m : Mem) : resV Try.prog Try.prog.funcs[7] env m = some (env 4) := resV_tmp rfl env m
theorem en8 : enterable Try.prog 8 = true := by kernel_rfl
theorem fa71_3 (p : V) : faddrV Try.prog 71 3 p = faddrK 3 p := by cases p <;> rfl
theorem ld67 (m : Mem) (p : V) : loadV Try.prog m 67 p = loadK false 1 m p := loadV_of (fun _ _ => rfl) p
theorem lni28 (m : Mem) (sz : Nat) (es : List (List V)) : lenV Try.prog m 28 (.isl sz es) = some (.int .i64 es.length) := rfl
theorem lns28 (m : Mem) (sz n off len : Nat) : lenV Try.prog m 28 (.sl sz n off len) = some (.int .i64 len) := rfl
theorem lnn28 (m : Mem) : lenV Try.prog m 28 .nils = some (.int .i64 0) := rfl
theorem ia28 (p q : V) : iaddrV Try.prog 28 p q = iaddrS 1 p q := by cases p <;> cases q <;> rfl
theorem bu76 : buildV Try.prog 76 [] = some (.agg ([.bool false, .bool false])) := by kernel_rfl
theorem en9 : enterable Try.prog 9 = true := by kernel_rfl
theorem fa71_2 (p : V) : faddrV Try.prog 71 2 p = faddrK 2 p := by cases p <;> rfl
theorem st3 (m : Mem) (p v : V) : storeV Try.prog 3 m p v = storeK 1 m p v := storeV_of (i := (Try.prog.info? 3).get rfl) rfl p v
theorem en10 : enterable Try.prog 10 = true := by kernel_rfl
theorem rs10 (env : Env) (m : Mem) : resV Try.prog Try.prog.funcs[10] env m = some (env 6) := resV_tmp rfl env m
theorem cv3_27 (k : IntKind) (n : Int) : convV Try.prog 3 27 (.int k n) = some (.int .u16 (IntKind.u16.wrap n)) := rfl
theorem ea30 (f g : Nat → Int) (hf : inK .u16 2 f) (hg : inK .u16 2 g) : eqV Try.prog 30 (.agg (cl .u16 2 f)) (.agg (cl .u16 2 g)) = some (eqN 2 f g) := eqV_cl2 (by kernel_rfl) (by kernel_rfl) hf hg
theorem fa71_1 (p : V) : faddrV Try.prog 71 1 p = faddrK 1 p := by cases p <;> rfl
theorem al84 (m : Mem) : allocV Try.prog 84 m = some (.ptr m.length 0, m ++ [.var 84 (cl .u16 4 fun _ => 0)]) := by kernel_rfl
theorem st84 (m : Mem) (p v : V) : storeV Try.prog 84 m p v = storeK 4 m p v := storeV_of (i := (Try.prog.info? 84).get rfl) rfl p v
theorem fa71_4 (p : V) : faddrV Try.prog 71 4 p = faddrK 4 p := by cases p <;> rfl
theorem ld68 (m : Mem) (p : V) : loadV Try.prog m 68 p = loadK false 1 m p := loadV_of (fun _ _ => rfl) p
theorem ld84 (m : Mem) (p : V) : loadV Try.prog m 84 p = loadK true 4 m p := loadV_of (fun _ _ => rfl) p
theorem fi87_0 (p : V) : fieldV Try.prog 87 0 p = fieldK false 1 0 p := by cases p <;> rfl
theorem en11 : enterable Try.prog 11 = true := by kernel_rfl
theorem rs11 (env : Env) (m : Mem) : resV Try.prog Try.prog.funcs[11] env m = some (env 4) := resV_tmp rfl env m
theorem fa33_6 (p : V) : faddrV Try.prog 33 6 p = faddrK 8 p := by cases p <;> rfl
theorem fa33_2 (p : V) : faddrV Try.prog 33 2 p = faddrK 3 p := by cases p <;> rfl
theorem fa33_8 (p : V) : faddrV Try.prog 33 8 p = faddrK 10 p := by cases p <;> rfl
theorem cv2_22 (k : IntKind) (n : Int) : convV Try.prog 2 22 (.int k n) = some (.int .u64 (IntKind.u64.wrap n)) := rfl
theorem en12 : enterable Try.prog 12 = true := by kernel_rfl
theorem rs12 (env : Env) (m : Mem) : resV Try.prog Try.prog.funcs[12] env m = some (env 2) := resV_tmp rfl env m
theorem al87 (m : Mem) : allocV Try.prog 87 m = some (.ptr m.length 0, m ++ [.var 87 ([.int .i64 0])]) := by kernel_rfl
theorem st87 (m : Mem) (p v : V) : storeV Try.prog 87 m p v = storeK 1 m p v := storeV_of (i := (Try.prog.info? 87).get rfl) rfl p v
theorem fa87_0 (p : V) : faddrV Try.prog 87 0 p = faddrK 0 p := by cases p <;> rfl
theorem fa84_0 (p : V) : faddrV Try.prog 84 0 p = faddrK 0 p := by cases p <;> rfl
theorem fi76_1 (p : V) : fieldV Try.prog 76 1 p = fieldK false 1 1 p := by cases p <;> rfl
theorem fa84_1 (p : V) : faddrV Try.prog 84 1 p = faddrK 2 p := by cases p <;> rfl
theorem en13 : enterable Try.prog 13 = true := by kernel_rfl
theorem rs13 (env : Env) (m : Mem) : resV Try.prog Try.prog.funcs[13] env m = some (env 0) := resV_tmp rfl env m
theorem ia36 (p q : V) : iaddrV Try.prog 36 p q = iaddrS 4 p q := by cases p <;> cases q <;> rfl
theorem ea84 (f g : Nat → Int) (hf : inK .u16 4 f) (hg : inK .u16 4 g) : eqV Try.prog 84 (.agg (cl .u16 4 f)) (.agg (cl .u16 4 g)) = some (eqN 4 f g) := eqV_cl2 (by kernel_rfl) (by kernel_rfl) hf hg
theorem en14 : enterable Try.prog 14 = true := by kernel_rfl
theorem rs14 (env : Env) (m : Mem) : resV Try.prog Try.prog.funcs[14] env m = some (env 2) := resV_tmp rfl env m
theorem al76 (m : Mem) : allocV Try.prog 76 m = some (.ptr m.length 0, m ++ [.var 76 ([.bool false, .bool false])]) := by kernel_rfl
theorem st76 (m : Mem) (p v : V) : storeV Try.prog 76 m p v = storeK 2 m p v := storeV_of (i := (Try.prog.info? 76).get rfl) rfl p v
theorem fa76_0 (p : V) : faddrV Try.prog 76 0 p = faddrK 0 p := by cases p <;> rfl
theorem ld4 (m : Mem) (p : V) : loadV Try.prog m 4 p = loadK false 1 m p := loadV_of (fun _ _ => rfl) p
theorem fa76_1 (p : V) : faddrV Try.prog 76 1 p = faddrK 1 p := by cases p <;> rfl
theorem lni92 (m : Mem) (sz : Nat) (es : List (List V)) : lenV Try.prog m 92 (.isl sz es) = some (.int .i64 es.length) := rfl
theorem lns92 (m : Mem) (sz n off len : Nat) : lenV Try.prog m 92 (.sl sz n off len) = some (.int .i64 len) := rfl
theorem lnn92 (m : Mem) : lenV Try.prog m 92 .nils = some (.int .i64 0) := rfl
theorem ia92 (p q : V) : iaddrV Try.prog 92 p q = iaddrS 2 p q := by cases p <;> cases q <;> rfl
theorem fa30_1 (p : V) : faddrV Try.prog 30 1 p = faddrK 1 p := by cases p <;> rfl
theorem en15 : enterable Try.prog 15 = true := by kernel_rfl
theorem en16 : enterable Try.prog 16 = true := by kernel_rfl
theorem rs16 (env : Env) (m : Mem) : resV Try.prog Try.prog.funcs[16] env m = some (.tup [env 6, env 7]) := resV_tmp_tmp rfl env m
theorem fa71_5 (p : V) : faddrV Try.prog 71 5 p = faddrK 5 p := by cases p <;> rfl
theorem ld69 (m : Mem) (p : V) : loadV Try.prog m 69 p = loadK false 1 m p := loadV_of (fun _ _ => rfl) p
theorem al96 (m : Mem) : allocV Try.prog 96 m = some (.ptr m.length 0, m ++ [.var 96 ([.int .u64 0])]) := by kernel_rfl
theorem st96 (m : Mem) (p v : V) : storeV Try.prog 96 m p v = storeK 1 m p v := storeV_of (i := (Try.prog.info? 96).get rfl) rfl p v
theorem fa96_0 (p : V) : faddrV Try.prog 96 0 p = faddrK 0 p := by cases p <;> rfl
theorem en17 : enterable Try.prog 17 = true := by kernel_rfl
theorem rs17 (env : Env) (m : Mem) : resV Try.prog Try.prog.funcs[17] env m = some (env 6) := resV_tmp rfl env m
theorem cv43_22 (k : IntKind) (n : Int) : convV Try.prog 43 22 (.int k n) = some (.int .u64 (IntKind.u64.wrap n)) := rfl
theorem en18 : enterable Try.prog 18 = true := by kernel_rfl
theorem al61 (m : Mem) : allocV Try.prog 61 m = some (.ptr m.length 0, m ++ [.var 61 ([.int .i64 0])]) := by kernel_rfl
theorem fa60_0 (p : V) : faddrV Try.prog 60 0 p = faddrK 0 p := by cases p <;> rfl
theorem ia45 (p q : V) : iaddrV Try.prog 45 p q = iaddrA 11 1 p q := by cases p <;> cases q <;> rfl
theorem bu103 : buildV Try.prog 103 [] = some (.agg ([])) := by kernel_rfl
theorem fa60_1 (p : V) : faddrV Try.prog 60 1 p = faddrK 11 p := by cases p <;> rfl
theorem st31 (m : Mem) (p v : V) : storeV Try.prog 31 m p v = storeK 1 m p v := storeV_of (i := (Try.prog.info? 31).get rfl) rfl p v
theorem fa107_0 (p : V) : faddrV Try.prog 107 0 p = faddrK 0 p := by cases p <;> rfl
theorem st61 (m : Mem) (p v : V) : storeV Try.prog 61 m p v = storeK 1 m p v := storeV_of (i := (Try.prog.info? 61).get rfl) rfl p v
theorem ld61 (m : Mem) (p : V) : loadV Try.prog m 61 p = loadK false 1 m p := loadV_of (fun _ _ => rfl) p
theorem bu60 : buildV Try.prog 60 [] = some (.agg ([.int .u64 0, .int .u64 0, .int .u64 0, .int .u64 0, .int .u64 0, .int .u64 0, .int .u64 0, .int .u64 0, .int .u64 0, .int .u64 0, .int .u64 0, .nils])) := by kernel_rfl
theorem en19 : enterable Try.prog 19 = true := by kernel_rfl
theorem ld45 (m : Mem) (p : V) : loadV Try.prog m 45 p = loadK true 11 m p := loadV_of (fun _ _ => rfl) p
theorem ia31 (p q : V) : iaddrV Try.prog 31 p q = iaddrS 1 p q := by cases p <;> cases q <;> rfl
theorem ld5 (m : Mem) (p : V) : loadV Try.prog m 5 p = loadK false 1 m p := loadV_of (fun _ _ => rfl) p
theorem cv22_43 (k : IntKind) (n : Int) : convV Try.prog 22 43 (.int k n) = some (.int .u32 (IntKind.u32.wrap n)) := rfl
theorem en20 : enterable Try.prog 20 = true := by kernel_rfl
theorem rs20 (env : Env) (m : Mem) : resV Try.prog Try.prog.funcs[20] env m = some (.tup [env 10, env 11]) := resV_tmp_tmp rfl env m
theorem fa120_1 (p : V) : faddrV Try.prog 120 1 p = faddrK 1 p := by cases p <;> rfl
theorem ld113 (m : Mem) (p : V) : loadV Try.prog m 113 p = loadK false 1 m p := loadV_of (fun _ _ => rfl) p
theorem en21 : enterable Try.prog 21 = true := by kernel_rfl
theorem en22 : enterable Try.prog 22 = true := by kernel_rfl
theorem rs22 (env : Env) (m : Mem) : resV Try.prog Try.prog.funcs[22] env m = some (env 3) := resV_tmp rfl env m
theorem en23 : enterable Try.prog 23 = true := by kernel_rfl
theorem rs23 (env : Env) (m : Mem) : resV Try.prog Try.prog.funcs[23] env m = some (env 4) := resV_tmp rfl env m
theorem en24 : enterable Try.prog 24 = true := by kernel_rfl
theorem rs24 (env : Env) (m : Mem) : resV Try.prog Try.prog.funcs[24] env m = some (env 2) := resV_tmp rfl env m
theorem cv5_3 (k : IntKind) (n : Int) : convV Try.prog 5 3 (.int k n) = some (.int .i64 (IntKind.i64.wrap n)) := rfl
theorem en25 : enterable Try.prog 25 = true := by kernel_rfl
theorem rs25 (env : Env) (m : Mem) : resV Try.prog Try.prog.funcs[25] env m = some (env 4) := resV_tmp rfl env m
theorem en26 : enterable Try.prog 26 = true := by kernel_rfl
theorem rs26 (env : Env) (m : Mem) : resV Try.prog Try.prog.funcs[26] env m = some (env 6) := resV_tmp rfl env m
theorem fa71_0 (p : V) : faddrV Try.prog 71 0 p = faddrK 0 p := by cases p <;> rfl
theorem cv27_22 (k : IntKind) (n : Int) : convV Try.prog 27 22 (.int k n) = some (.int .u64 (IntKind.u64.wrap n)) := rfl
theorem cv3_22 (k : IntKind) (n : Int) : convV Try.prog 3 22 (.int k n) = some (.int .u64 (IntKind.u64.wrap n)) := rfl
theorem en27 : enterable Try.prog 27 = true := by kernel_rfl
theorem rs27 (env : Env) (m : Mem) : resV Try.prog Try.prog.funcs[27] env m = some (env 4) := resV_tmp rfl env m
theorem en28 : enterable Try.prog 28 = true := by kernel_rfl
theorem rs28 (env : Env) (m : Mem) : resV Try.prog Try.prog.funcs[28] env m = some (env 6) := resV_tmp rfl env m
theorem en29 : enterable Try.prog 29 = true := by kernel_rfl
theorem rs29 (env : Env) (m : Mem) : resV Try.prog Try.prog.funcs[29] env m = some (env 4) := resV_tmp rfl env m
theorem en30 : enterable Try.prog 30 = true := by kernel_rfl
theorem rs30 (env : Env) (m : Mem) : resV Try.prog Try.prog.funcs[30] env m = some (env 4) := resV_tmp rfl env m
theorem en31 : enterable Try.prog 31 = true := by kernel_rfl
theorem rs31 (env : Env) (m : Mem) : resV Try.prog Try.prog.funcs[31] env m = some (env 2) := resV_tmp rfl env m
theorem lni128 (m : Mem) (sz : Nat) (es : List (List V)) : lenV Try.prog m 128 (.isl sz es) = some (.int .i64 es.length) := rfl
theorem lns128 (m : Mem) (sz n off len : Nat) : lenV Try.prog m 128 (.sl sz n off len) = some (.int .i64 len) := rfl
theorem lnn128 (m : Mem) : lenV Try.prog m 128 .nils = some (.int .i64 0) := rfl
theorem ia128 (p q : V) : iaddrV Try.prog 128 p q = iaddrS 1 p q := by cases p <;> cases q <;> rfl
theorem en32 : enterable Try.prog 32 = true := by kernel_rfl
theorem rs32 (env : Env) (m : Mem) : resV Try.prog Try.prog.funcs[32] env m = some (env 4) := resV_tmp rfl env m
theorem en33 : enterable Try.prog 33 = true := by kernel_rfl
theorem rs33 (env : Env) (m : Mem) : resV Try.prog Try.prog.funcs[33] env m = some (env 3) := resV_tmp rfl env m
theorem en34 : enterable Try.prog 34 = true := by kernel_rfl
theorem rs34 (env : Env) (m : Mem) : resV Try.prog Try.prog.funcs[34] env m = some (.tup [env 4, env 5]) := resV_tmp_tmp rfl env m
theorem en35 : enterable Try.prog 35 = true := by kernel_rfl
theorem rs35 (env : Env) (m : Mem) : resV Try.prog Try.prog.funcs[35] env m = some (.tup [env 2, env 3]) := resV_tmp_tmp rfl env m
theorem al45 (m : Mem) : allocV Try.prog 45 m = some (.ptr m.length 0, m ++ [.var 45 (cl .u64 11 fun _ => 0)]) := by kernel_rfl
theorem st45 (m : Mem) (p v : V) : storeV Try.prog 45 m p v = storeK 11 m p v := storeV_of (i := (Try.prog.info? 45).get rfl) rfl p v
theorem en36 : enterable Try.prog 36 = true := by kernel_rfl
theorem rs36 (env : Env) (m : Mem) : resV Try.prog Try.prog.funcs[36] env m = loadV Try.prog m 60 (env 10) := resV_cell rfl env m
theorem en37 : enterable Try.prog 37 = true := by kernel_rfl
theorem as103 (v : V) : assertV Try.prog 103 (.ifc 103 v) = some (.tup [v, .bool true]) := by kernel_rfl
theorem al103 (m : Mem) : allocV Try.prog 103 m = some (.ptr m.length 0, m ++ [.var 103 ([])]) := by kernel_rfl
theorem st103 (m : Mem) (p v : V) : storeV Try.prog 103 m p v = storeK 0 m p v := storeV_of (i := (Try.prog.info? 103).get rfl) rfl p v
theorem en38 : enterable Try.prog 38 = true := by kernel_rfl
theorem rs38 (env : Env) (m : Mem) : resV Try.prog Try.prog.funcs[38] env m = some (env 4) := resV_tmp rfl env m
theorem cv5_22 (k : IntKind) (n : Int) : convV Try.prog 5 22 (.int k n) = some (.int .u64 (IntKind.u64.wrap n)) := rfl
theorem en39 : enterable Try.prog 39 = true := by kernel_rfl
theorem rs39 (env : Env) (m : Mem) : resV Try.prog Try.prog.funcs[39] env m = some (env 4) := resV_tmp rfl env m
theorem en40 : enterable Try.prog 40 = true := by kernel_rfl
theorem rs40 (env : Env) (m : Mem) : resV Try.prog Try.prog.funcs[40] env m = some (env 4) := resV_tmp rfl env m
theorem cvi31_9 (es : List (List V)) : convV Try.prog 31 9 (.isl 1 es) = (numsV es).map fun xs => .str (strOfNums xs) := by kernel_rfl
theorem cvn31_9 : convV Try.prog 31 9 .nils = some (.str ByteArray.empty) := by kernel_rfl
theorem en41 : enterable Try.prog 41 = true := by kernel_rfl
theorem rs41 (env : Env) (m : Mem) : resV Try.prog Try.prog.funcs[41] env m = some (env 2) := resV_tmp rfl env m
theorem ix45 (p q : V) : indexV Try.prog 45 p q = indexA 11 false 1 p q := by cases p <;> cases q <;> rfl
theorem cv3_42 (k : IntKind) (n : Int) : convV Try.prog 3 42 (.int k n) = some (.int .i8 (IntKind.i8.wrap n)) := rfl
theorem en42 : enterable Try.prog 42 = true := by kernel_rfl
theorem rs42 (env : Env) (m : Mem) : resV Try.prog Try.prog.funcs[42] env m = some (env 4) := resV_tmp rfl env m
theorem en43 : enterable Try.prog 43 = true := by kernel_rfl
theorem rs43 (env : Env) (m : Mem) : resV Try.prog Try.prog.funcs[43] env m = some (env 2) := resV_tmp rfl env m
theorem en44 : enterable Try.prog 44 = true := by kernel_rfl
theorem rs44 (env : Env) (m : Mem) : resV Try.prog Try.prog.funcs[44] env m = some (env 2) := resV_tmp rfl env m
theorem en45 : enterable Try.prog 45 = true := by kernel_rfl
theorem rs45 (env : Env) (m : Mem) : resV Try.prog Try.prog.funcs[45] env m = some (env 6) := resV_tmp rfl env m
theorem cv3_79 (k : IntKind) (n : Int) : convV Try.prog 3 79 (.int k n) = some (.int .u64 (IntKind.u64.wrap n)) := rfl
theorem cv22_5 (k : IntKind) (n : Int) : convV Try.prog 22 5 (.int k n) = some (.int .u8 (IntKind.u8.wrap n)) := rfl
theorem en46 : enterable Try.prog 46 = true := by kernel_rfl
theorem rs46 (env : Env) (m : Mem) : resV Try.prog Try.prog.funcs[46] env m = some (env 4) := resV_tmp rfl env m
theorem en47 : enterable Try.prog 47 = true := by kernel_rfl
theorem rs47 (env : Env) (m : Mem) : resV Try.prog Try.prog.funcs[47] env m = some (env 6) := resV_tmp rfl env m
theorem en48 : enterable Try.prog 48 = true := by kernel_rfl
theorem en49 : enterable Try.prog 49 = true := by kernel_rfl
theorem en50 : enterable Try.prog 50 = true := by kernel_rfl
theorem rs50 (env : Env) (m : Mem) : resV Try.prog Try.prog.funcs[50] env m = some (env 6) := resV_tmp rfl env m
theorem en51 : enterable Try.prog 51 = true := by kernel_rfl
theorem rs51 (env : Env) (m : Mem) : resV Try.prog Try.prog.funcs[51] env m = some (env 4) := resV_tmp rfl env m
theorem en52 : enterable Try.prog 52 = true := by kernel_rfl
theorem rs52 (env : Env) (m : Mem) : resV Try.prog Try.prog.funcs[52] env m = some (env 4) := resV_tmp rfl env m
theorem cv27_5 (k : IntKind) (n : Int) : convV Try.prog 27 5 (.int k n) = some (.int .u8 (IntKind.u8.wrap n)) := rfl
theorem st5 (m : Mem) (p v : V) : storeV Try.prog 5 m p v = storeK 1 m p v := storeV_of (i := (Try.prog.info? 5).get rfl) rfl p v
theorem en53 : enterable Try.prog 53 = true := by kernel_rfl
theorem rs53 (env : Env) (m : Mem) : resV Try.prog Try.prog.funcs[53] env m = some (env 4) := resV_tmp rfl env m
theorem en54 : enterable Try.prog 54 = true := by kernel_rfl
theorem rs54 (env : Env) (m : Mem) : resV Try.prog Try.prog.funcs[54] env m = some (env 4) := resV_tmp rfl env m
theorem en55 : enterable Try.prog 55 = true := by kernel_rfl
theorem rs55 (env : Env) (m : Mem) : resV Try.prog Try.prog.funcs[55] env m = some (env 0) := resV_tmp rfl env m
theorem en56 : enterable Try.prog 56 = true := by kernel_rfl
theorem rs56 (env : Env) (m : Mem) : resV Try.prog Try.prog.funcs[56] env m = some (env 2) := resV_tmp rfl env m
theorem en57 : enterable Try.prog 57 = true := by kernel_rfl
theorem en58 : enterable Try.prog 58 = true := by kernel_rfl
theorem rs58 (env : Env) (m : Mem) : resV Try.prog Try.prog.funcs[58] env m = some (env 2) := resV_tmp rfl env m
theorem cv79_43 (k : IntKind) (n : Int) : convV Try.prog 79 43 (.int k n) = some (.int .u32 (IntKind.u32.wrap n)) := rfl
theorem en59 : enterable Try.prog 59 = true := by kernel_rfl
theorem en60 : enterable Try.prog 60 = true := by kernel_rfl
theorem rs60 (env : Env) (m : Mem) : resV Try.prog Try.prog.funcs[60] env m = some (env 2) := resV_tmp rfl env m
theorem cv22_27 (k : IntKind) (n : Int) : convV Try.prog 22 27 (.int k n) = some (.int .u16 (IntKind.u16.wrap n)) := rfl
theorem en61 : enterable Try.prog 61 = true := by kernel_rfl
theorem rs61 (env : Env) (m : Mem) : resV Try.prog Try.prog.funcs[61] env m = some (env 2) := resV_tmp rfl env m
theorem ix170 (p q : V) : indexV Try.prog 170 p q = indexA 11 false 1 p q := by cases p <;> cases q <;> rfl
theorem en62 : enterable Try.prog 62 = true := by kernel_rfl
theorem en63 : enterable Try.prog 63 = true := by kernel_rfl
theorem en64 : enterable Try.prog 64 = true := by kernel_rfl
theorem cv3_172 (k : IntKind) (n : Int) : convV Try.prog 3 172 (.int k n) = some (.int .u64 (IntKind.u64.wrap n)) := rfl
theorem al172 (m : Mem) : allocV Try.prog 172 m = some (.ptr m.length 0, m ++ [.var 172 ([.int .u64 0])]) := by kernel_rfl
theorem st172 (m : Mem) (p v : V) : storeV Try.prog 172 m p v = storeK 1 m p v := storeV_of (i := (Try.prog.info? 172).get rfl) rfl p v
theorem cv79_3 (k : IntKind) (n : Int) : convV Try.prog 79 3 (.int k n) = some (.int .i64 (IntKind.i64.wrap n)) := rfl
theorem en65 : enterable Try.prog 65 = true := by kernel_rfl
theorem rs65 (env : Env) (m : Mem) : resV Try.prog Try.prog.funcs[65] env m = some (.tup [env 8, env 9]) := resV_tmp_tmp rfl env m
theorem al3 (m : Mem) : allocV Try.prog 3 m = some (.ptr m.length 0, m ++ [.var 3 ([.int .i64 0])]) := by kernel_rfl
theorem en66 : enterable Try.prog 66 = true := by kernel_rfl
theorem en67 : enterable Try.prog 67 = true := by kernel_rfl
theorem rs67 (env : Env) (m : Mem) : resV Try.prog Try.prog.funcs[67] env m = some (env 8) := resV_tmp rfl env m
theorem en68 : enterable Try.prog 68 = true := by kernel_rfl
theorem rs68 (env : Env) (m : Mem) : resV Try.prog Try.prog.funcs[68] env m = some (env 10) := resV_tmp rfl env m
theorem en69 : enterable Try.prog 69 = true := by kernel_rfl
theorem rs69 (env : Env) (m : Mem) : resV Try.prog Try.prog.funcs[69] env m = some (.tup [env 10, env 11]) := resV_tmp_tmp rfl env m
theorem en70 : enterable Try.prog 70 = true := by kernel_rfl
theorem rs70 (env : Env) (m : Mem) : resV Try.prog Try.prog.funcs[70] env m = some (env 2) := resV_tmp rfl env m
theorem cv43_5 (k : IntKind) (n : Int) : convV Try.prog 43 5 (.int k n) = some (.int .u8 (IntKind.u8.wrap n)) := rfl
theorem en71 : enterable Try.prog 71 = true := by kernel_rfl
theorem rs71 (env : Env) (m : Mem) : resV Try.prog Try.prog.funcs[71] env m = some (env 2) := resV_tmp rfl env m
theorem en72 : enterable Try.prog 72 = true := by kernel_rfl
theorem en73 : enterable Try.prog 73 = true := by kernel_rfl
theorem en74 : enterable Try.prog 74 = true := by kernel_rfl
theorem en75 : enterable Try.prog 75 = true := by kernel_rfl
theorem rs75 (env : Env) (m : Mem) : resV Try.prog Try.prog.funcs[75] env m = some (.tup [env 8, env 9]) := resV_tmp_tmp rfl env m
theorem en76 : enterable Try.prog 76 = true := by kernel_rfl
theorem en77 : enterable Try.prog 77 = true := by kernel_rfl
theorem rs77 (env : Env) (m : Mem) : resV Try.prog Try.prog.funcs[77] env m = some (env 8) := resV_tmp rfl env m
theorem en78 : enterable Try.prog 78 = true := by kernel_rfl
theorem rs78 (env : Env) (m : Mem) : resV Try.prog Try.prog.funcs[78] env m = some (env 10) := resV_tmp rfl env m
theorem en79 : enterable Try.prog 79 = true := by kernel_rfl
theorem rs79 (env : Env) (m : Mem) : resV Try.prog Try.prog.funcs[79] env m = some (.tup [env 10, env 11]) := resV_tmp_tmp rfl env m
theorem en80 : enterable Try.prog 80 = true := by kernel_rfl
theorem rs80 (env : Env) (m : Mem) : resV Try.prog Try.prog.funcs[80] env m = loadV Try.prog m 170 (env 0) := resV_cell rfl env m
theorem al170 (m : Mem) : allocV Try.prog 170 m = some (.ptr m.length 0, m ++ [.var 170 (cl .i64 11 fun _ => 0)]) := by kernel_rfl
theorem st170 (m : Mem) (p v : V) : storeV Try.prog 170 m p v = storeK 11 m p v := storeV_of (i := (Try.prog.info? 170).get rfl) rfl p v
theorem ld170 (m : Mem) (p : V) : loadV Try.prog m 170 p = loadK true 11 m p := loadV_of (fun _ _ => rfl) p
theorem en81 : enterable Try.prog 81 = true := by kernel_rfl
theorem en82 : enterable Try.prog 82 = true := by kernel_rfl
theorem rs82 (env : Env) (m : Mem) : resV Try.prog Try.prog.funcs[82] env m = some (env 2) := resV_tmp rfl env m
theorem en83 : enterable Try.prog 83 = true := by kernel_rfl
theorem rs83 (env : Env) (m : Mem) : resV Try.prog Try.prog.funcs[83] env m = some (env 2) := resV_tmp rfl env m
theorem ld172 (m : Mem) (p : V) : loadV Try.prog m 172 p = loadK false 1 m p := loadV_of (fun _ _ => rfl) p
theorem en84 : enterable Try.prog 84 = true := by kernel_rfl
theorem rs84 (env : Env) (m : Mem) : resV Try.prog Try.prog.funcs[84] env m = some (env 8) := resV_tmp rfl env m
theorem en85 : enterable Try.prog 85 = true := by kernel_rfl
theorem rs85 (env : Env) (m : Mem) : resV Try.prog Try.prog.funcs[85] env m = some (env 12) := resV_tmp rfl env m
theorem en86 : enterable Try.prog 86 = true := by kernel_rfl
theorem en87 : enterable Try.prog 87 = true := by kernel_rfl
theorem rs87 (env : Env) (m : Mem) : resV Try.prog Try.prog.funcs[87] env m = some (env 8) := resV_tmp rfl env m
theorem en88 : enterable Try.prog 88 = true := by kernel_rfl
theorem rs88 (env : Env) (m : Mem) : resV Try.prog Try.prog.funcs[88] env m = some (env 12) := resV_tmp rfl env m
theorem en89 : enterable Try.prog 89 = true := by kernel_rfl
theorem rs89 (env : Env) (m : Mem) : resV Try.prog Try.prog.funcs[89] env m = some (.tup [env 10, env 11]) := resV_tmp_tmp rfl env m
theorem en90 : enterable Try.prog 90 = true := by kernel_rfl
theorem rs90 (env : Env) (m : Mem) : resV Try.prog Try.prog.funcs[90] env m = some (.tup [env 10, env 11]) := resV_tmp_tmp rfl env m
end Go.Proofs.Ytpmbhjmlghoogaa
