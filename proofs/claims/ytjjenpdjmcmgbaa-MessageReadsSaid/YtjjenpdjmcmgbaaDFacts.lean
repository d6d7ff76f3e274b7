/- Facts on the program's types. No condition. -/
import Derived.Test.YtjjenpdjmcmgbaaDAm7
import Derived.Test.YtjjenpdjmcmgbaaProg
namespace Go.Proofs.Ytjjenpdjmcmgbaa
open Go Ab
set_option linter.unusedSimpArgs false
set_option linter.unusedVariables false
set_option maxRecDepth 20000
theorem fol : Try.prog.follows .mixedOrders = true := by kernel_rfl
theorem rs3 (env : Env) (m : Mem) : resV Try.prog Try.prog.funcs[3] env m = some (env 2) := resV_tmp rfl env m
theorem ld37 (m : Mem) (p : V) : loadV Try.prog m 37 p = loadK true 36 m p := loadV_of (fun _ _ => rfl) p
theorem cvi34_9 (es : List (List V)) : convV Try.prog 34 9 (.isl 1 es) = (numsV es).map fun xs => .str (strOfNums xs) := by kernel_rfl
theorem cvn34_9 : convV Try.prog 34 9 .nils = some (.str ByteArray.empty) := by kernel_rfl
theorem rs4 (env : Env) (m : Mem) : resV Try.prog Try.prog.funcs[4] env m = some (env 2) := resV_tmp rfl env m
theorem al37 (m : Mem) : allocV Try.prog 37 m = some (.ptr m.length 0, m ++ [.var 37 ([.int .i8 0, .int .u32 0, .int .i8 0, .int .i64 0, .int .u64 0, .int .u64 0, .int .u64 0, .int .u64 0, .int .u64 0, .int .u64 0, .int .u64 0, .int .u64 0, .int .u64 0, .int .u64 0, .int .u64 0, .int .u64 0, .int .u64 0, .int .u64 0, .int .u64 0, .int .u64 0, .int .u64 0, .int .u64 0, .int .u64 0, .int .u64 0, .int .u64 0, .int .u64 0, .nils, .int .u64 0, .int .u16 0, .bool false, .int .u16 0, .nils, .nils, .nils, .nils, .int .u16 0])]) := by kernel_rfl
theorem st37 (m : Mem) (p v : V) : storeV Try.prog 37 m p v = storeK 36 m p v := storeV_of (i := (Try.prog.info? 37).get rfl) rfl p v
theorem rs5 (env : Env) (m : Mem) : resV Try.prog Try.prog.funcs[5] env m = some (env 4) := resV_tmp rfl env m
theorem rs6 (env : Env) (m : Mem) : resV Try.prog Try.prog.funcs[6] env m = some (env 6) := resV_tmp rfl env m
theorem lni34 (m : Mem) (sz : Nat) (es : List (List V)) : lenV Try.prog m 34 (.isl sz es) = some (.int .i64 es.length) := rfl
theorem lns34 (m : Mem) (sz n off len : Nat) : lenV Try.prog m 34 (.sl sz n off len) = some (.int .i64 len) := rfl
theorem lnn34 (m : Mem) : lenV Try.prog m 34 .nils = some (.int .i64 0) := rfl
theorem en7 : enterable Try.prog 7 = true := by kernel_rfl
theorem rs7 (env : Env) (m : Mem) : resV Try.prog Try.prog.funcs[7] env m = some (.tup [env 2, env 3]) := resV_tmp_tmp rfl env m
theorem rs8 (env : Env) (m : Mem) : resV Try.prog Try.prog.funcs[8] env m = some (.tup [env 2, env 3]) := resV_tmp_tmp rfl env m
theorem en9 : enterable Try.prog 9 = true := by kernel_rfl
theorem rs9 (env : Env) (m : Mem) : resV Try.prog Try.prog.funcs[9] env m = some (env 2) := resV_tmp rfl env m
theorem en10 : enterable Try.prog 10 = true := by kernel_rfl
theorem rs10 (env : Env) (m : Mem) : resV Try.prog Try.prog.funcs[10] env m = some (env 2) := resV_tmp rfl env m
theorem fa37_7 (p : V) : faddrV Try.prog 37 7 p = faddrK 31 p := by cases p <;> rfl
theorem ld33 (m : Mem) (p : V) : loadV Try.prog m 33 p = loadK false 1 m p := loadV_of (fun _ _ => rfl) p
theorem lni33 (m : Mem) (sz : Nat) (es : List (List V)) : lenV Try.prog m 33 (.isl sz es) = some (.int .i64 es.length) := rfl
theorem lns33 (m : Mem) (sz n off len : Nat) : lenV Try.prog m 33 (.sl sz n off len) = some (.int .i64 len) := rfl
theorem lnn33 (m : Mem) : lenV Try.prog m 33 .nils = some (.int .i64 0) := rfl
theorem fa37_8 (p : V) : faddrV Try.prog 37 8 p = faddrK 32 p := by cases p <;> rfl
theorem fa37_9 (p : V) : faddrV Try.prog 37 9 p = faddrK 33 p := by cases p <;> rfl
theorem ld34 (m : Mem) (p : V) : loadV Try.prog m 34 p = loadK false 1 m p := loadV_of (fun _ _ => rfl) p
theorem fa37_10 (p : V) : faddrV Try.prog 37 10 p = faddrK 34 p := by cases p <;> rfl
theorem ld35 (m : Mem) (p : V) : loadV Try.prog m 35 p = loadK false 1 m p := loadV_of (fun _ _ => rfl) p
theorem lni35 (m : Mem) (sz : Nat) (es : List (List V)) : lenV Try.prog m 35 (.isl sz es) = some (.int .i64 es.length) := rfl
theorem lns35 (m : Mem) (sz n off len : Nat) : lenV Try.prog m 35 (.sl sz n off len) = some (.int .i64 len) := rfl
theorem lnn35 (m : Mem) : lenV Try.prog m 35 .nils = some (.int .i64 0) := rfl
theorem fa37_3 (p : V) : faddrV Try.prog 37 3 p = faddrK 3 p := by cases p <;> rfl
theorem ld31 (m : Mem) (p : V) : loadV Try.prog m 31 p = loadK true 25 m p := loadV_of (fun _ _ => rfl) p
theorem ia35 (p q : V) : iaddrV Try.prog 35 p q = iaddrS 27 p q := by cases p <;> cases q <;> rfl
theorem fa59_0 (p : V) : faddrV Try.prog 59 0 p = faddrK 0 p := by cases p <;> rfl
theorem en11 : enterable Try.prog 11 = true := by kernel_rfl
theorem rs11 (env : Env) (m : Mem) : resV Try.prog Try.prog.funcs[11] env m = some (env 0) := resV_tmp rfl env m
theorem en12 : enterable Try.prog 12 = true := by kernel_rfl
theorem al38 (m : Mem) : allocV Try.prog 38 m = some (.ptr m.length 0, m ++ [.var 38 ([.int .i64 0])]) := by kernel_rfl
theorem ia34 (p q : V) : iaddrV Try.prog 34 p q = iaddrS 1 p q := by cases p <;> cases q <;> rfl
theorem ld5 (m : Mem) (p : V) : loadV Try.prog m 5 p = loadK false 1 m p := loadV_of (fun _ _ => rfl) p
theorem cv5_3 (k : IntKind) (n : Int) : convV Try.prog 5 3 (.int k n) = some (.int .i64 (IntKind.i64.wrap n)) := rfl
theorem st38 (m : Mem) (p v : V) : storeV Try.prog 38 m p v = storeK 1 m p v := storeV_of (i := (Try.prog.info? 38).get rfl) rfl p v
theorem cv5_22 (k : IntKind) (n : Int) : convV Try.prog 5 22 (.int k n) = some (.int .i8 (IntKind.i8.wrap n)) := rfl
theorem al66 (m : Mem) : allocV Try.prog 66 m = some (.ptr m.length 0, m ++ [.var 66 ([.nilf])]) := by kernel_rfl
theorem st66 (m : Mem) (p v : V) : storeV Try.prog 66 m p v = storeK 1 m p v := storeV_of (i := (Try.prog.info? 66).get rfl) rfl p v
theorem fa37_0 (p : V) : faddrV Try.prog 37 0 p = faddrK 0 p := by cases p <;> rfl
theorem st22 (m : Mem) (p v : V) : storeV Try.prog 22 m p v = storeK 1 m p v := storeV_of (i := (Try.prog.info? 22).get rfl) rfl p v
theorem fa37_1 (p : V) : faddrV Try.prog 37 1 p = faddrK 1 p := by cases p <;> rfl
theorem fa66_0 (p : V) : faddrV Try.prog 66 0 p = faddrK 0 p := by cases p <;> rfl
theorem ld64 (m : Mem) (p : V) : loadV Try.prog m 64 p = loadK false 1 m p := loadV_of (fun _ _ => rfl) p
theorem fa71_0 (p : V) : faddrV Try.prog 71 0 p = faddrK 0 p := by cases p <;> rfl
theorem bu37 : buildV Try.prog 37 [] = some (.agg ([.int .i8 0, .int .u32 0, .int .i8 0, .int .i64 0, .int .u64 0, .int .u64 0, .int .u64 0, .int .u64 0, .int .u64 0, .int .u64 0, .int .u64 0, .int .u64 0, .int .u64 0, .int .u64 0, .int .u64 0, .int .u64 0, .int .u64 0, .int .u64 0, .int .u64 0, .int .u64 0, .int .u64 0, .int .u64 0, .int .u64 0, .int .u64 0, .int .u64 0, .int .u64 0, .nils, .int .u64 0, .int .u16 0, .bool false, .int .u16 0, .nils, .nils, .nils, .nils, .int .u16 0])) := by kernel_rfl
theorem ld38 (m : Mem) (p : V) : loadV Try.prog m 38 p = loadK false 1 m p := loadV_of (fun _ _ => rfl) p
theorem en13 : enterable Try.prog 13 = true := by kernel_rfl
theorem rs13 (env : Env) (m : Mem) : resV Try.prog Try.prog.funcs[13] env m = (loadV Try.prog m 37 (env 2)).bind fun v => some (.tup [v, env 3]) := resV_cell_tmp rfl env m
theorem cv24_3 (k : IntKind) (n : Int) : convV Try.prog 24 3 (.int k n) = some (.int .i64 (IntKind.i64.wrap n)) := rfl
theorem cv24_23 (k : IntKind) (n : Int) : convV Try.prog 24 23 (.int k n) = some (.int .u32 (IntKind.u32.wrap n)) := rfl
theorem ld22 (m : Mem) (p : V) : loadV Try.prog m 22 p = loadK false 1 m p := loadV_of (fun _ _ => rfl) p
theorem cv24_32 (k : IntKind) (n : Int) : convV Try.prog 24 32 (.int k n) = some (.int .u16 (IntKind.u16.wrap n)) := rfl
theorem fa37_6 (p : V) : faddrV Try.prog 37 6 p = faddrK 30 p := by cases p <;> rfl
theorem st32 (m : Mem) (p v : V) : storeV Try.prog 32 m p v = storeK 1 m p v := storeV_of (i := (Try.prog.info? 32).get rfl) rfl p v
theorem st33 (m : Mem) (p v : V) : storeV Try.prog 33 m p v = storeK 1 m p v := storeV_of (i := (Try.prog.info? 33).get rfl) rfl p v
theorem cv24_22 (k : IntKind) (n : Int) : convV Try.prog 24 22 (.int k n) = some (.int .i8 (IntKind.i8.wrap n)) := rfl
theorem fa37_2 (p : V) : faddrV Try.prog 37 2 p = faddrK 2 p := by cases p <;> rfl
theorem st31 (m : Mem) (p v : V) : storeV Try.prog 31 m p v = storeK 25 m p v := storeV_of (i := (Try.prog.info? 31).get rfl) rfl p v
theorem fa37_4 (p : V) : faddrV Try.prog 37 4 p = faddrK 28 p := by cases p <;> rfl
theorem fa77_2 (p : V) : faddrV Try.prog 77 2 p = faddrK 2 p := by cases p <;> rfl
theorem ld4 (m : Mem) (p : V) : loadV Try.prog m 4 p = loadK false 1 m p := loadV_of (fun _ _ => rfl) p
theorem cv24_5 (k : IntKind) (n : Int) : convV Try.prog 24 5 (.int k n) = some (.int .u8 (IntKind.u8.wrap n)) := rfl
theorem st34 (m : Mem) (p v : V) : storeV Try.prog 34 m p v = storeK 1 m p v := storeV_of (i := (Try.prog.info? 34).get rfl) rfl p v
theorem al31 (m : Mem) : allocV Try.prog 31 m = some (.ptr m.length 0, m ++ [.var 31 ([.int .i64 0, .int .u64 0, .int .u64 0, .int .u64 0, .int .u64 0, .int .u64 0, .int .u64 0, .int .u64 0, .int .u64 0, .int .u64 0, .int .u64 0, .int .u64 0, .int .u64 0, .int .u64 0, .int .u64 0, .int .u64 0, .int .u64 0, .int .u64 0, .int .u64 0, .int .u64 0, .int .u64 0, .int .u64 0, .int .u64 0, .nils, .int .u64 0])]) := by kernel_rfl
theorem st35 (m : Mem) (p v : V) : storeV Try.prog 35 m p v = storeK 1 m p v := storeV_of (i := (Try.prog.info? 35).get rfl) rfl p v
theorem fa37_5 (p : V) : faddrV Try.prog 37 5 p = faddrK 29 p := by cases p <;> rfl
theorem st4 (m : Mem) (p v : V) : storeV Try.prog 4 m p v = storeK 1 m p v := storeV_of (i := (Try.prog.info? 4).get rfl) rfl p v
theorem fa37_11 (p : V) : faddrV Try.prog 37 11 p = faddrK 35 p := by cases p <;> rfl
theorem fa77_1 (p : V) : faddrV Try.prog 77 1 p = faddrK 1 p := by cases p <;> rfl
theorem ld3 (m : Mem) (p : V) : loadV Try.prog m 3 p = loadK false 1 m p := loadV_of (fun _ _ => rfl) p
theorem en14 : enterable Try.prog 14 = true := by kernel_rfl
theorem rs14 (env : Env) (m : Mem) : resV Try.prog Try.prog.funcs[14] env m = some (env 4) := resV_tmp rfl env m
theorem ld23 (m : Mem) (p : V) : loadV Try.prog m 23 p = loadK false 1 m p := loadV_of (fun _ _ => rfl) p
theorem ld32 (m : Mem) (p : V) : loadV Try.prog m 32 p = loadK false 1 m p := loadV_of (fun _ _ => rfl) p
theorem eqb4 : isBoolT Try.prog 4 = true := by kernel_rfl
theorem en15 : enterable Try.prog 15 = true := by kernel_rfl
theorem al34 (m : Mem) : allocV Try.prog 34 m = some (.ptr m.length 0, m ++ [.var 34 ([.nils])]) := by kernel_rfl
theorem al4 (m : Mem) : allocV Try.prog 4 m = some (.ptr m.length 0, m ++ [.var 4 ([.bool false])]) := by kernel_rfl
theorem bu71 : buildV Try.prog 71 [] = some (.agg ([.nils, .bool false])) := by kernel_rfl
theorem cv3_24 (k : IntKind) (n : Int) : convV Try.prog 3 24 (.int k n) = some (.int .u64 (IntKind.u64.wrap n)) := rfl
theorem al24 (m : Mem) : allocV Try.prog 24 m = some (.ptr m.length 0, m ++ [.var 24 ([.int .u64 0])]) := by kernel_rfl
theorem st24 (m : Mem) (p v : V) : storeV Try.prog 24 m p v = storeK 1 m p v := storeV_of (i := (Try.prog.info? 24).get rfl) rfl p v
theorem ld24 (m : Mem) (p : V) : loadV Try.prog m 24 p = loadK false 1 m p := loadV_of (fun _ _ => rfl) p
theorem cv22_5 (k : IntKind) (n : Int) : convV Try.prog 22 5 (.int k n) = some (.int .u8 (IntKind.u8.wrap n)) := rfl
theorem en16 : enterable Try.prog 16 = true := by kernel_rfl
theorem rs16 (env : Env) (m : Mem) : resV Try.prog Try.prog.funcs[16] env m = some (env 2) := resV_tmp rfl env m
theorem cv32_24 (k : IntKind) (n : Int) : convV Try.prog 32 24 (.int k n) = some (.int .u64 (IntKind.u64.wrap n)) := rfl
theorem fa59_1 (p : V) : faddrV Try.prog 59 1 p = faddrK 25 p := by cases p <;> rfl
theorem fa57_0 (p : V) : faddrV Try.prog 57 0 p = faddrK 0 p := by cases p <;> rfl
theorem fa57_1 (p : V) : faddrV Try.prog 57 1 p = faddrK 1 p := by cases p <;> rfl
theorem cv23_24 (k : IntKind) (n : Int) : convV Try.prog 23 24 (.int k n) = some (.int .u64 (IntKind.u64.wrap n)) := rfl
theorem en17 : enterable Try.prog 17 = true := by kernel_rfl
theorem rs17 (env : Env) (m : Mem) : resV Try.prog Try.prog.funcs[17] env m = some (env 2) := resV_tmp rfl env m
theorem ld54 (m : Mem) (p : V) : loadV Try.prog m 54 p = loadK false 1 m p := loadV_of (fun _ _ => rfl) p
theorem fa31_0 (p : V) : faddrV Try.prog 31 0 p = faddrK 0 p := by cases p <;> rfl
theorem fa31_3 (p : V) : faddrV Try.prog 31 3 p = faddrK 24 p := by cases p <;> rfl
theorem fa31_2 (p : V) : faddrV Try.prog 31 2 p = faddrK 23 p := by cases p <;> rfl
theorem ld29 (m : Mem) (p : V) : loadV Try.prog m 29 p = loadK false 1 m p := loadV_of (fun _ _ => rfl) p
theorem lni29 (m : Mem) (sz : Nat) (es : List (List V)) : lenV Try.prog m 29 (.isl sz es) = some (.int .i64 es.length) := rfl
theorem lns29 (m : Mem) (sz n off len : Nat) : lenV Try.prog m 29 (.sl sz n off len) = some (.int .i64 len) := rfl
theorem lnn29 (m : Mem) : lenV Try.prog m 29 .nils = some (.int .i64 0) := rfl
theorem fa31_1 (p : V) : faddrV Try.prog 31 1 p = faddrK 1 p := by cases p <;> rfl
theorem ld28 (m : Mem) (p : V) : loadV Try.prog m 28 p = loadK true 22 m p := loadV_of (fun _ _ => rfl) p
theorem bu28 : buildV Try.prog 28 [] = some (.agg (cl .u64 22 fun _ => 0)) := by kernel_rfl
theorem ea28 (f g : Nat → Int) (hf : inK .u64 22 f) (hg : inK .u64 22 g) : eqV Try.prog 28 (.agg (cl .u64 22 f)) (.agg (cl .u64 22 g)) = some (eqN 22 f g) := eqV_cl2 (by kernel_rfl) (by kernel_rfl) hf hg
theorem lni96 (m : Mem) (sz : Nat) (es : List (List V)) : lenV Try.prog m 96 (.isl sz es) = some (.int .i64 es.length) := rfl
theorem lns96 (m : Mem) (sz n off len : Nat) : lenV Try.prog m 96 (.sl sz n off len) = some (.int .i64 len) := rfl
theorem lnn96 (m : Mem) : lenV Try.prog m 96 .nils = some (.int .i64 0) := rfl
theorem ia96 (p q : V) : iaddrV Try.prog 96 p q = iaddrS 2 p q := by cases p <;> cases q <;> rfl
theorem ld95 (m : Mem) (p : V) : loadV Try.prog m 95 p = loadK true 2 m p := loadV_of (fun _ _ => rfl) p
theorem al95 (m : Mem) : allocV Try.prog 95 m = some (.ptr m.length 0, m ++ [.var 95 ([.bool false, .bool false])]) := by kernel_rfl
theorem st95 (m : Mem) (p v : V) : storeV Try.prog 95 m p v = storeK 2 m p v := storeV_of (i := (Try.prog.info? 95).get rfl) rfl p v
theorem fa95_0 (p : V) : faddrV Try.prog 95 0 p = faddrK 0 p := by cases p <;> rfl
theorem fa95_1 (p : V) : faddrV Try.prog 95 1 p = faddrK 1 p := by cases p <;> rfl
theorem en18 : enterable Try.prog 18 = true := by kernel_rfl
theorem rs18 (env : Env) (m : Mem) : resV Try.prog Try.prog.funcs[18] env m = some (env 2) := resV_tmp rfl env m
theorem en19 : enterable Try.prog 19 = true := by kernel_rfl
theorem rs19 (env : Env) (m : Mem) : resV Try.prog Try.prog.funcs[19] env m = some (env 2) := resV_tmp rfl env m
theorem ia29 (p q : V) : iaddrV Try.prog 29 p q = iaddrS 1 p q := by cases p <;> cases q <;> rfl
theorem ld99 (m : Mem) (p : V) : loadV Try.prog m 99 p = loadK false 1 m p := loadV_of (fun _ _ => rfl) p
theorem lni99 (m : Mem) (sz : Nat) (es : List (List V)) : lenV Try.prog m 99 (.isl sz es) = some (.int .i64 es.length) := rfl
theorem lns99 (m : Mem) (sz n off len : Nat) : lenV Try.prog m 99 (.sl sz n off len) = some (.int .i64 len) := rfl
theorem lnn99 (m : Mem) : lenV Try.prog m 99 .nils = some (.int .i64 0) := rfl
theorem as62 (v : V) : assertV Try.prog 62 (.ifc 62 v) = some (.tup [v, .bool true]) := by kernel_rfl
theorem al62 (m : Mem) : allocV Try.prog 62 m = some (.ptr m.length 0, m ++ [.var 62 ([])]) := by kernel_rfl
theorem st62 (m : Mem) (p v : V) : storeV Try.prog 62 m p v = storeK 0 m p v := storeV_of (i := (Try.prog.info? 62).get rfl) rfl p v
theorem en21 : enterable Try.prog 21 = true := by kernel_rfl
theorem rs21 (env : Env) (m : Mem) : resV Try.prog Try.prog.funcs[21] env m = (loadV Try.prog m 66 (env 2)).bind fun v => some (.tup [v, env 3]) := resV_cell_tmp rfl env m
theorem al64 (m : Mem) : allocV Try.prog 64 m = some (.ptr m.length 0, m ++ [.var 64 ([.nilf])]) := by kernel_rfl
theorem st64 (m : Mem) (p v : V) : storeV Try.prog 64 m p v = storeK 1 m p v := storeV_of (i := (Try.prog.info? 64).get rfl) rfl p v
theorem al105 (m : Mem) : allocV Try.prog 105 m = some (.ptr m.length 0, m ++ [.var 105 ([.nilf])]) := by kernel_rfl
theorem st105 (m : Mem) (p v : V) : storeV Try.prog 105 m p v = storeK 1 m p v := storeV_of (i := (Try.prog.info? 105).get rfl) rfl p v
theorem ld66 (m : Mem) (p : V) : loadV Try.prog m 66 p = loadK true 1 m p := loadV_of (fun _ _ => rfl) p
theorem bu66 : buildV Try.prog 66 [] = some (.agg ([.nilf])) := by kernel_rfl
theorem ia120 (p q : V) : iaddrV Try.prog 120 p q = iaddrS 1 p q := by cases p <;> cases q <;> rfl
theorem en22 : enterable Try.prog 22 = true := by kernel_rfl
theorem cv3_60 (k : IntKind) (n : Int) : convV Try.prog 3 60 (.int k n) = some (.int .u64 (IntKind.u64.wrap n)) := rfl
theorem st23 (m : Mem) (p v : V) : storeV Try.prog 23 m p v = storeK 1 m p v := storeV_of (i := (Try.prog.info? 23).get rfl) rfl p v
theorem en23 : enterable Try.prog 23 = true := by kernel_rfl
theorem rs23 (env : Env) (m : Mem) : resV Try.prog Try.prog.funcs[23] env m = some (env 6) := resV_tmp rfl env m
theorem cv5_24 (k : IntKind) (n : Int) : convV Try.prog 5 24 (.int k n) = some (.int .u64 (IntKind.u64.wrap n)) := rfl
theorem en24 : enterable Try.prog 24 = true := by kernel_rfl
theorem rs24 (env : Env) (m : Mem) : resV Try.prog Try.prog.funcs[24] env m = some (env 4) := resV_tmp rfl env m
theorem fa77_0 (p : V) : faddrV Try.prog 77 0 p = faddrK 0 p := by cases p <;> rfl
theorem st3 (m : Mem) (p v : V) : storeV Try.prog 3 m p v = storeK 1 m p v := storeV_of (i := (Try.prog.info? 3).get rfl) rfl p v
theorem en25 : enterable Try.prog 25 = true := by kernel_rfl
theorem rs25 (env : Env) (m : Mem) : resV Try.prog Try.prog.funcs[25] env m = some (env 2) := resV_tmp rfl env m
theorem en26 : enterable Try.prog 26 = true := by kernel_rfl
theorem rs26 (env : Env) (m : Mem) : resV Try.prog Try.prog.funcs[26] env m = loadV Try.prog m 31 (env 2) := resV_cell rfl env m
theorem cv23_21 (k : IntKind) (n : Int) : convV Try.prog 23 21 (.int k n) = some (.int .i32 (IntKind.i32.wrap n)) := rfl
theorem cv21_3 (k : IntKind) (n : Int) : convV Try.prog 21 3 (.int k n) = some (.int .i64 (IntKind.i64.wrap n)) := rfl
theorem cv22_60 (k : IntKind) (n : Int) : convV Try.prog 22 60 (.int k n) = some (.int .u64 (IntKind.u64.wrap n)) := rfl
theorem fa28_0 (p : V) : faddrV Try.prog 28 0 p = faddrK 0 p := by cases p <;> rfl
theorem ia26 (p q : V) : iaddrV Try.prog 26 p q = iaddrA 11 1 p q := by cases p <;> cases q <;> rfl
theorem fa28_1 (p : V) : faddrV Try.prog 28 1 p = faddrK 11 p := by cases p <;> rfl
theorem st29 (m : Mem) (p v : V) : storeV Try.prog 29 m p v = storeK 1 m p v := storeV_of (i := (Try.prog.info? 29).get rfl) rfl p v
theorem en27 : enterable Try.prog 27 = true := by kernel_rfl
theorem rs27 (env : Env) (m : Mem) : resV Try.prog Try.prog.funcs[27] env m = some (env 4) := resV_tmp rfl env m
theorem en28 : enterable Try.prog 28 = true := by kernel_rfl
theorem rs28 (env : Env) (m : Mem) : resV Try.prog Try.prog.funcs[28] env m = some (env 4) := resV_tmp rfl env m
theorem ia33 (p q : V) : iaddrV Try.prog 33 p q = iaddrS 1 p q := by cases p <;> cases q <;> rfl
theorem en29 : enterable Try.prog 29 = true := by kernel_rfl
theorem rs29 (env : Env) (m : Mem) : resV Try.prog Try.prog.funcs[29] env m = some (env 4) := resV_tmp rfl env m
theorem ld57 (m : Mem) (p : V) : loadV Try.prog m 57 p = loadK true 2 m p := loadV_of (fun _ _ => rfl) p
theorem ea57 (f g : Nat → Int) (hf : inK .u64 2 f) (hg : inK .u64 2 g) : eqV Try.prog 57 (.agg (cl .u64 2 f)) (.agg (cl .u64 2 g)) = some (eqN 2 f g) := eqV_cl2 (by kernel_rfl) (by kernel_rfl) hf hg
theorem as84 (v : V) : assertV Try.prog 84 (.ifc 84 v) = some (.tup [v, .bool true]) := by kernel_rfl
theorem al84 (m : Mem) : allocV Try.prog 84 m = some (.ptr m.length 0, m ++ [.var 84 ([])]) := by kernel_rfl
theorem st84 (m : Mem) (p v : V) : storeV Try.prog 84 m p v = storeK 0 m p v := storeV_of (i := (Try.prog.info? 84).get rfl) rfl p v
theorem en31 : enterable Try.prog 31 = true := by kernel_rfl
theorem fa71_1 (p : V) : faddrV Try.prog 71 1 p = faddrK 1 p := by cases p <;> rfl
theorem bu62 : buildV Try.prog 62 [] = some (.agg ([])) := by kernel_rfl
theorem bu84 : buildV Try.prog 84 [] = some (.agg ([])) := by kernel_rfl
theorem en32 : enterable Try.prog 32 = true := by kernel_rfl
theorem rs32 (env : Env) (m : Mem) : resV Try.prog Try.prog.funcs[32] env m = some (env 6) := resV_tmp rfl env m
theorem en33 : enterable Try.prog 33 = true := by kernel_rfl
theorem rs33 (env : Env) (m : Mem) : resV Try.prog Try.prog.funcs[33] env m = some (env 4) := resV_tmp rfl env m
theorem en34 : enterable Try.prog 34 = true := by kernel_rfl
theorem rs34 (env : Env) (m : Mem) : resV Try.prog Try.prog.funcs[34] env m = some (env 4) := resV_tmp rfl env m
theorem cv3_21 (k : IntKind) (n : Int) : convV Try.prog 3 21 (.int k n) = some (.int .i32 (IntKind.i32.wrap n)) := rfl
theorem cv21_23 (k : IntKind) (n : Int) : convV Try.prog 21 23 (.int k n) = some (.int .u32 (IntKind.u32.wrap n)) := rfl
theorem ia99 (p q : V) : iaddrV Try.prog 99 p q = iaddrS 3 p q := by cases p <;> cases q <;> rfl
theorem ld123 (m : Mem) (p : V) : loadV Try.prog m 123 p = loadK true 3 m p := loadV_of (fun _ _ => rfl) p
theorem al123 (m : Mem) : allocV Try.prog 123 m = some (.ptr m.length 0, m ++ [.var 123 ([.int .i8 0, .int .i8 0, .int .u64 0])]) := by kernel_rfl
theorem st123 (m : Mem) (p v : V) : storeV Try.prog 123 m p v = storeK 3 m p v := storeV_of (i := (Try.prog.info? 123).get rfl) rfl p v
theorem fa123_0 (p : V) : faddrV Try.prog 123 0 p = faddrK 0 p := by cases p <;> rfl
theorem fa123_1 (p : V) : faddrV Try.prog 123 1 p = faddrK 1 p := by cases p <;> rfl
theorem fa123_2 (p : V) : faddrV Try.prog 123 2 p = faddrK 2 p := by cases p <;> rfl
theorem en35 : enterable Try.prog 35 = true := by kernel_rfl
theorem rs35 (env : Env) (m : Mem) : resV Try.prog Try.prog.funcs[35] env m = some (env 2) := resV_tmp rfl env m
theorem en36 : enterable Try.prog 36 = true := by kernel_rfl
theorem rs36 (env : Env) (m : Mem) : resV Try.prog Try.prog.funcs[36] env m = some (env 3) := resV_tmp rfl env m
theorem en37 : enterable Try.prog 37 = true := by kernel_rfl
theorem rs37 (env : Env) (m : Mem) : resV Try.prog Try.prog.funcs[37] env m = some (env 4) := resV_tmp rfl env m
theorem en38 : enterable Try.prog 38 = true := by kernel_rfl
theorem rs38 (env : Env) (m : Mem) : resV Try.prog Try.prog.funcs[38] env m = some (env 2) := resV_tmp rfl env m
theorem en39 : enterable Try.prog 39 = true := by kernel_rfl
theorem rs39 (env : Env) (m : Mem) : resV Try.prog Try.prog.funcs[39] env m = some (env 2) := resV_tmp rfl env m
theorem en40 : enterable Try.prog 40 = true := by kernel_rfl
theorem rs40 (env : Env) (m : Mem) : resV Try.prog Try.prog.funcs[40] env m = some (env 2) := resV_tmp rfl env m
theorem en41 : enterable Try.prog 41 = true := by kernel_rfl
theorem en42 : enterable Try.prog 42 = true := by kernel_rfl
theorem en43 : enterable Try.prog 43 = true := by kernel_rfl
theorem ld69 (m : Mem) (p : V) : loadV Try.prog m 69 p = loadK false 1 m p := loadV_of (fun _ _ => rfl) p
theorem en44 : enterable Try.prog 44 = true := by kernel_rfl
theorem al32 (m : Mem) : allocV Try.prog 32 m = some (.ptr m.length 0, m ++ [.var 32 ([.int .u16 0])]) := by kernel_rfl
theorem en45 : enterable Try.prog 45 = true := by kernel_rfl
theorem en46 : enterable Try.prog 46 = true := by kernel_rfl
theorem en47 : enterable Try.prog 47 = true := by kernel_rfl
theorem al5 (m : Mem) : allocV Try.prog 5 m = some (.ptr m.length 0, m ++ [.var 5 ([.int .u8 0])]) := by kernel_rfl
theorem en48 : enterable Try.prog 48 = true := by kernel_rfl
theorem en49 : enterable Try.prog 49 = true := by kernel_rfl
theorem st5 (m : Mem) (p v : V) : storeV Try.prog 5 m p v = storeK 1 m p v := storeV_of (i := (Try.prog.info? 5).get rfl) rfl p v
theorem en50 : enterable Try.prog 50 = true := by kernel_rfl
theorem ld105 (m : Mem) (p : V) : loadV Try.prog m 105 p = loadK false 1 m p := loadV_of (fun _ _ => rfl) p
theorem en51 : enterable Try.prog 51 = true := by kernel_rfl
theorem en52 : enterable Try.prog 52 = true := by kernel_rfl
theorem cv22_24 (k : IntKind) (n : Int) : convV Try.prog 22 24 (.int k n) = some (.int .u64 (IntKind.u64.wrap n)) := rfl
theorem en53 : enterable Try.prog 53 = true := by kernel_rfl
theorem al23 (m : Mem) : allocV Try.prog 23 m = some (.ptr m.length 0, m ++ [.var 23 ([.int .u32 0])]) := by kernel_rfl
theorem en54 : enterable Try.prog 54 = true := by kernel_rfl
theorem en55 : enterable Try.prog 55 = true := by kernel_rfl
theorem al59 (m : Mem) : allocV Try.prog 59 m = some (.ptr m.length 0, m ++ [.var 59 ([.int .i64 0, .int .u64 0, .int .u64 0, .int .u64 0, .int .u64 0, .int .u64 0, .int .u64 0, .int .u64 0, .int .u64 0, .int .u64 0, .int .u64 0, .int .u64 0, .int .u64 0, .int .u64 0, .int .u64 0, .int .u64 0, .int .u64 0, .int .u64 0, .int .u64 0, .int .u64 0, .int .u64 0, .int .u64 0, .int .u64 0, .nils, .int .u64 0, .int .u64 0, .int .u64 0])]) := by kernel_rfl
theorem ld59 (m : Mem) (p : V) : loadV Try.prog m 59 p = loadK true 27 m p := loadV_of (fun _ _ => rfl) p
theorem en56 : enterable Try.prog 56 = true := by kernel_rfl
theorem en57 : enterable Try.prog 57 = true := by kernel_rfl
theorem en58 : enterable Try.prog 58 = true := by kernel_rfl
theorem en59 : enterable Try.prog 59 = true := by kernel_rfl
theorem en60 : enterable Try.prog 60 = true := by kernel_rfl
theorem en61 : enterable Try.prog 61 = true := by kernel_rfl
theorem rs61 (env : Env) (m : Mem) : resV Try.prog Try.prog.funcs[61] env m = some (env 2) := resV_tmp rfl env m
theorem en62 : enterable Try.prog 62 = true := by kernel_rfl
theorem rs62 (env : Env) (m : Mem) : resV Try.prog Try.prog.funcs[62] env m = some (env 4) := resV_tmp rfl env m
theorem en63 : enterable Try.prog 63 = true := by kernel_rfl
theorem rs63 (env : Env) (m : Mem) : resV Try.prog Try.prog.funcs[63] env m = some (env 4) := resV_tmp rfl env m
theorem en64 : enterable Try.prog 64 = true := by kernel_rfl
theorem rs64 (env : Env) (m : Mem) : resV Try.prog Try.prog.funcs[64] env m = some (env 4) := resV_tmp rfl env m
theorem lni92 (m : Mem) (sz : Nat) (es : List (List V)) : lenV Try.prog m 92 (.isl sz es) = some (.int .i64 es.length) := rfl
theorem lns92 (m : Mem) (sz n off len : Nat) : lenV Try.prog m 92 (.sl sz n off len) = some (.int .i64 len) := rfl
theorem lnn92 (m : Mem) : lenV Try.prog m 92 .nils = some (.int .i64 0) := rfl
theorem ia92 (p q : V) : iaddrV Try.prog 92 p q = iaddrS 1 p q := by cases p <;> cases q <;> rfl
theorem en65 : enterable Try.prog 65 = true := by kernel_rfl
theorem rs65 (env : Env) (m : Mem) : resV Try.prog Try.prog.funcs[65] env m = some (env 2) := resV_tmp rfl env m
theorem ld26 (m : Mem) (p : V) : loadV Try.prog m 26 p = loadK true 11 m p := loadV_of (fun _ _ => rfl) p
theorem ix26 (p q : V) : indexV Try.prog 26 p q = indexA 11 false 1 p q := by cases p <;> cases q <;> rfl
theorem cv3_22 (k : IntKind) (n : Int) : convV Try.prog 3 22 (.int k n) = some (.int .i8 (IntKind.i8.wrap n)) := rfl
theorem en66 : enterable Try.prog 66 = true := by kernel_rfl
theorem rs66 (env : Env) (m : Mem) : resV Try.prog Try.prog.funcs[66] env m = (loadV Try.prog m 37 (env 2)).bind fun v => some (.tup [v, env 3]) := resV_cell_tmp rfl env m
theorem en67 : enterable Try.prog 67 = true := by kernel_rfl
theorem rs67 (env : Env) (m : Mem) : resV Try.prog Try.prog.funcs[67] env m = some (env 2) := resV_tmp rfl env m
theorem en68 : enterable Try.prog 68 = true := by kernel_rfl
theorem rs68 (env : Env) (m : Mem) : resV Try.prog Try.prog.funcs[68] env m = some (env 2) := resV_tmp rfl env m
theorem en69 : enterable Try.prog 69 = true := by kernel_rfl
theorem en70 : enterable Try.prog 70 = true := by kernel_rfl
theorem al99 (m : Mem) : allocV Try.prog 99 m = some (.ptr m.length 0, m ++ [.var 99 ([.nils])]) := by kernel_rfl
theorem en71 : enterable Try.prog 71 = true := by kernel_rfl
theorem en72 : enterable Try.prog 72 = true := by kernel_rfl
theorem st99 (m : Mem) (p v : V) : storeV Try.prog 99 m p v = storeK 1 m p v := storeV_of (i := (Try.prog.info? 99).get rfl) rfl p v
theorem en73 : enterable Try.prog 73 = true := by kernel_rfl
theorem en74 : enterable Try.prog 74 = true := by kernel_rfl
theorem rs74 (env : Env) (m : Mem) : resV Try.prog Try.prog.funcs[74] env m = some (env 2) := resV_tmp rfl env m
theorem en75 : enterable Try.prog 75 = true := by kernel_rfl
theorem rs75 (env : Env) (m : Mem) : resV Try.prog Try.prog.funcs[75] env m = some (env 2) := resV_tmp rfl env m
theorem ix139 (p q : V) : indexV Try.prog 139 p q = indexA 11 false 1 p q := by cases p <;> cases q <;> rfl
theorem en76 : enterable Try.prog 76 = true := by kernel_rfl
theorem rs76 (env : Env) (m : Mem) : resV Try.prog Try.prog.funcs[76] env m = loadV Try.prog m 139 (env 0) := resV_cell rfl env m
theorem al139 (m : Mem) : allocV Try.prog 139 m = some (.ptr m.length 0, m ++ [.var 139 (cl .i64 11 fun _ => 0)]) := by kernel_rfl
theorem st139 (m : Mem) (p v : V) : storeV Try.prog 139 m p v = storeK 11 m p v := storeV_of (i := (Try.prog.info? 139).get rfl) rfl p v
theorem ld139 (m : Mem) (p : V) : loadV Try.prog m 139 p = loadK true 11 m p := loadV_of (fun _ _ => rfl) p
end Go.Proofs.Ytjjenpdjmcmgbaa
