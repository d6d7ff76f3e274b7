/- Facts on the program's types. No condition. -/
import Derived.Test.YtmbjjelbpnbmoaaAm7
import Derived.Test.YtmbjjelbpnbmoaaProg
namespace Go.Proofs.Ytmbjjelbpnbmoaa
open Go Ab
set_option linter.unusedSimpArgs false
set_option linter.unusedVariables false
set_option maxRecDepth 20000
theorem fol : Try.prog.follows .mixedOrders = true := by kernel_rfl
theorem en2 : enterable Try.prog 2 = true := by kernel_rfl
theorem en3 : enterable Try.prog 3 = true := by kernel_rfl
theorem rs3 (env : Env) (m : Mem) : resV Try.prog Try.prog.funcs[3] env m = some (env 2) := resV_tmp rfl env m
theorem al27 (m : Mem) : allocV Try.prog 27 m = some (.ptr m.length 0, m ++ [.var 27 ([.int .u64 0, .int .u64 0, .int .u64 0, .int .u64 0, .int .u64 0, .int .u64 0, .int .u64 0, .int .u64 0, .int .u64 0, .int .u64 0, .int .u64 0, .nils])]) := by kernel_rfl
theorem st27 (m : Mem) (p v : V) : storeV Try.prog 27 m p v = storeK 12 m p v := storeV_of (i := (Try.prog.info? 27).get rfl) rfl p v
theorem ld27 (m : Mem) (p : V) : loadV Try.prog m 27 p = loadK true 12 m p := loadV_of (fun _ _ => rfl) p
theorem en4 : enterable Try.prog 4 = true := by kernel_rfl
theorem rs4 (env : Env) (m : Mem) : resV Try.prog Try.prog.funcs[4] env m = some (env 4) := resV_tmp rfl env m
theorem fa27_0 (p : V) : faddrV Try.prog 27 0 p = faddrK 0 p := by cases p <;> rfl
theorem ia25 (p q : V) : iaddrV Try.prog 25 p q = iaddrA 11 1 p q := by cases p <;> cases q <;> rfl
theorem st23 (m : Mem) (p v : V) : storeV Try.prog 23 m p v = storeK 1 m p v := storeV_of (i := (Try.prog.info? 23).get rfl) rfl p v
theorem en5 : enterable Try.prog 5 = true := by kernel_rfl
theorem rs5 (env : Env) (m : Mem) : resV Try.prog Try.prog.funcs[5] env m = some (env 6) := resV_tmp rfl env m
theorem ld23 (m : Mem) (p : V) : loadV Try.prog m 23 p = loadK false 1 m p := loadV_of (fun _ _ => rfl) p
theorem lni22 (m : Mem) (sz : Nat) (es : List (List V)) : lenV Try.prog m 22 (.isl sz es) = some (.int .i64 es.length) := rfl
theorem lns22 (m : Mem) (sz n off len : Nat) : lenV Try.prog m 22 (.sl sz n off len) = some (.int .i64 len) := rfl
theorem lnn22 (m : Mem) : lenV Try.prog m 22 .nils = some (.int .i64 0) := rfl
theorem ia22 (p q : V) : iaddrV Try.prog 22 p q = iaddrS 1 p q := by cases p <;> cases q <;> rfl
theorem ld5 (m : Mem) (p : V) : loadV Try.prog m 5 p = loadK false 1 m p := loadV_of (fun _ _ => rfl) p
theorem st5 (m : Mem) (p v : V) : storeV Try.prog 5 m p v = storeK 1 m p v := storeV_of (i := (Try.prog.info? 5).get rfl) rfl p v
theorem en6 : enterable Try.prog 6 = true := by kernel_rfl
theorem rs6 (env : Env) (m : Mem) : resV Try.prog Try.prog.funcs[6] env m = some (env 2) := resV_tmp rfl env m
theorem cv32_5 (k : IntKind) (n : Int) : convV Try.prog 32 5 (.int k n) = some (.int .u8 (IntKind.u8.wrap n)) := rfl
theorem en7 : enterable Try.prog 7 = true := by kernel_rfl
theorem rs7 (env : Env) (m : Mem) : resV Try.prog Try.prog.funcs[7] env m = some (env 6) := resV_tmp rfl env m
theorem en8 : enterable Try.prog 8 = true := by kernel_rfl
theorem rs8 (env : Env) (m : Mem) : resV Try.prog Try.prog.funcs[8] env m = some (env 4) := resV_tmp rfl env m
theorem fa27_1 (p : V) : faddrV Try.prog 27 1 p = faddrK 11 p := by cases p <;> rfl
theorem ld22 (m : Mem) (p : V) : loadV Try.prog m 22 p = loadK false 1 m p := loadV_of (fun _ _ => rfl) p
theorem st22 (m : Mem) (p v : V) : storeV Try.prog 22 m p v = storeK 1 m p v := storeV_of (i := (Try.prog.info? 22).get rfl) rfl p v
theorem en9 : enterable Try.prog 9 = true := by kernel_rfl
theorem rs9 (env : Env) (m : Mem) : resV Try.prog Try.prog.funcs[9] env m = some (env 2) := resV_tmp rfl env m
theorem eqb4 : isBoolT Try.prog 4 = true := by kernel_rfl
theorem en10 : enterable Try.prog 10 = true := by kernel_rfl
theorem rs10 (env : Env) (m : Mem) : resV Try.prog Try.prog.funcs[10] env m = some (env 8) := resV_tmp rfl env m
theorem en11 : enterable Try.prog 11 = true := by kernel_rfl
theorem rs11 (env : Env) (m : Mem) : resV Try.prog Try.prog.funcs[11] env m = some (env 8) := resV_tmp rfl env m
theorem cv32_23 (k : IntKind) (n : Int) : convV Try.prog 32 23 (.int k n) = some (.int .u64 (IntKind.u64.wrap n)) := rfl
theorem en12 : enterable Try.prog 12 = true := by kernel_rfl
theorem al28 (m : Mem) : allocV Try.prog 28 m = some (.ptr m.length 0, m ++ [.var 28 ([.int .i64 0])]) := by kernel_rfl
theorem bu53 : buildV Try.prog 53 [] = some (.agg ([])) := by kernel_rfl
theorem fa57_0 (p : V) : faddrV Try.prog 57 0 p = faddrK 0 p := by cases p <;> rfl
theorem st28 (m : Mem) (p v : V) : storeV Try.prog 28 m p v = storeK 1 m p v := storeV_of (i := (Try.prog.info? 28).get rfl) rfl p v
theorem ld28 (m : Mem) (p : V) : loadV Try.prog m 28 p = loadK false 1 m p := loadV_of (fun _ _ => rfl) p
theorem bu27 : buildV Try.prog 27 [] = some (.agg ([.int .u64 0, .int .u64 0, .int .u64 0, .int .u64 0, .int .u64 0, .int .u64 0, .int .u64 0, .int .u64 0, .int .u64 0, .int .u64 0, .int .u64 0, .nils])) := by kernel_rfl
theorem en13 : enterable Try.prog 13 = true := by kernel_rfl
theorem rs13 (env : Env) (m : Mem) : resV Try.prog Try.prog.funcs[13] env m = (loadV Try.prog m 27 (env 2)).bind fun v => some (.tup [v, env 3]) := resV_cell_tmp rfl env m
theorem ld25 (m : Mem) (p : V) : loadV Try.prog m 25 p = loadK true 11 m p := loadV_of (fun _ _ => rfl) p
theorem en14 : enterable Try.prog 14 = true := by kernel_rfl
theorem rs14 (env : Env) (m : Mem) : resV Try.prog Try.prog.funcs[14] env m = some (env 4) := resV_tmp rfl env m
theorem ea25 (f g : Nat → Int) (hf : inK .u64 11 f) (hg : inK .u64 11 g) : eqV Try.prog 25 (.agg (cl .u64 11 f)) (.agg (cl .u64 11 g)) = some (eqN 11 f g) := eqV_cl2 (by kernel_rfl) (by kernel_rfl) hf hg
theorem en15 : enterable Try.prog 15 = true := by kernel_rfl
theorem rs15 (env : Env) (m : Mem) : resV Try.prog Try.prog.funcs[15] env m = some (env 2) := resV_tmp rfl env m
theorem cv5_23 (k : IntKind) (n : Int) : convV Try.prog 5 23 (.int k n) = some (.int .u64 (IntKind.u64.wrap n)) := rfl
theorem cv3_41 (k : IntKind) (n : Int) : convV Try.prog 3 41 (.int k n) = some (.int .u64 (IntKind.u64.wrap n)) := rfl
theorem cv23_32 (k : IntKind) (n : Int) : convV Try.prog 23 32 (.int k n) = some (.int .u16 (IntKind.u16.wrap n)) := rfl
theorem en16 : enterable Try.prog 16 = true := by kernel_rfl
theorem rs16 (env : Env) (m : Mem) : resV Try.prog Try.prog.funcs[16] env m = some (env 2) := resV_tmp rfl env m
theorem en17 : enterable Try.prog 17 = true := by kernel_rfl
theorem rs17 (env : Env) (m : Mem) : resV Try.prog Try.prog.funcs[17] env m = some (env 0) := resV_tmp rfl env m
theorem en18 : enterable Try.prog 18 = true := by kernel_rfl
theorem rs18 (env : Env) (m : Mem) : resV Try.prog Try.prog.funcs[18] env m = some (.tup [env 2, env 3]) := resV_tmp_tmp rfl env m
theorem al25 (m : Mem) : allocV Try.prog 25 m = some (.ptr m.length 0, m ++ [.var 25 (cl .u64 11 fun _ => 0)]) := by kernel_rfl
theorem st25 (m : Mem) (p v : V) : storeV Try.prog 25 m p v = storeK 11 m p v := storeV_of (i := (Try.prog.info? 25).get rfl) rfl p v
theorem en19 : enterable Try.prog 19 = true := by kernel_rfl
theorem rs19 (env : Env) (m : Mem) : resV Try.prog Try.prog.funcs[19] env m = some (env 4) := resV_tmp rfl env m
theorem cvi22_9 (es : List (List V)) : convV Try.prog 22 9 (.isl 1 es) = (numsV es).map fun xs => .str (strOfNums xs) := by kernel_rfl
theorem cvn22_9 : convV Try.prog 22 9 .nils = some (.str ByteArray.empty) := by kernel_rfl
theorem en20 : enterable Try.prog 20 = true := by kernel_rfl
theorem rs20 (env : Env) (m : Mem) : resV Try.prog Try.prog.funcs[20] env m = some (env 4) := resV_tmp rfl env m
theorem en21 : enterable Try.prog 21 = true := by kernel_rfl
theorem rs21 (env : Env) (m : Mem) : resV Try.prog Try.prog.funcs[21] env m = some (env 6) := resV_tmp rfl env m
theorem cv42_23 (k : IntKind) (n : Int) : convV Try.prog 42 23 (.int k n) = some (.int .u64 (IntKind.u64.wrap n)) := rfl
theorem en22 : enterable Try.prog 22 = true := by kernel_rfl
theorem rs22 (env : Env) (m : Mem) : resV Try.prog Try.prog.funcs[22] env m = some (env 6) := resV_tmp rfl env m
theorem en23 : enterable Try.prog 23 = true := by kernel_rfl
theorem rs23 (env : Env) (m : Mem) : resV Try.prog Try.prog.funcs[23] env m = some (env 0) := resV_tmp rfl env m
theorem en24 : enterable Try.prog 24 = true := by kernel_rfl
theorem rs24 (env : Env) (m : Mem) : resV Try.prog Try.prog.funcs[24] env m = some (.tup [env 4, env 5]) := resV_tmp_tmp rfl env m
theorem en25 : enterable Try.prog 25 = true := by kernel_rfl
theorem rs25 (env : Env) (m : Mem) : resV Try.prog Try.prog.funcs[25] env m = some (.tup [env 4, env 5]) := resV_tmp_tmp rfl env m
theorem en26 : enterable Try.prog 26 = true := by kernel_rfl
theorem cv23_42 (k : IntKind) (n : Int) : convV Try.prog 23 42 (.int k n) = some (.int .u32 (IntKind.u32.wrap n)) := rfl
theorem en27 : enterable Try.prog 27 = true := by kernel_rfl
theorem en28 : enterable Try.prog 28 = true := by kernel_rfl
theorem as53 (v : V) : assertV Try.prog 53 (.ifc 53 v) = some (.tup [v, .bool true]) := by kernel_rfl
theorem al53 (m : Mem) : allocV Try.prog 53 m = some (.ptr m.length 0, m ++ [.var 53 ([])]) := by kernel_rfl
theorem st53 (m : Mem) (p v : V) : storeV Try.prog 53 m p v = storeK 0 m p v := storeV_of (i := (Try.prog.info? 53).get rfl) rfl p v
theorem en29 : enterable Try.prog 29 = true := by kernel_rfl
theorem rs29 (env : Env) (m : Mem) : resV Try.prog Try.prog.funcs[29] env m = some (env 4) := resV_tmp rfl env m
theorem en30 : enterable Try.prog 30 = true := by kernel_rfl
theorem rs30 (env : Env) (m : Mem) : resV Try.prog Try.prog.funcs[30] env m = some (env 4) := resV_tmp rfl env m
theorem en31 : enterable Try.prog 31 = true := by kernel_rfl
theorem rs31 (env : Env) (m : Mem) : resV Try.prog Try.prog.funcs[31] env m = some (env 4) := resV_tmp rfl env m
theorem en32 : enterable Try.prog 32 = true := by kernel_rfl
theorem rs32 (env : Env) (m : Mem) : resV Try.prog Try.prog.funcs[32] env m = some (env 6) := resV_tmp rfl env m
theorem en33 : enterable Try.prog 33 = true := by kernel_rfl
theorem rs33 (env : Env) (m : Mem) : resV Try.prog Try.prog.funcs[33] env m = some (env 4) := resV_tmp rfl env m
theorem cv3_23 (k : IntKind) (n : Int) : convV Try.prog 3 23 (.int k n) = some (.int .u64 (IntKind.u64.wrap n)) := rfl
theorem en34 : enterable Try.prog 34 = true := by kernel_rfl
theorem rs34 (env : Env) (m : Mem) : resV Try.prog Try.prog.funcs[34] env m = some (.tup [env 2, env 3]) := resV_tmp_tmp rfl env m
theorem en35 : enterable Try.prog 35 = true := by kernel_rfl
theorem rs35 (env : Env) (m : Mem) : resV Try.prog Try.prog.funcs[35] env m = some (env 2) := resV_tmp rfl env m
theorem ix25 (p q : V) : indexV Try.prog 25 p q = indexA 11 false 1 p q := by cases p <;> cases q <;> rfl
theorem cv3_69 (k : IntKind) (n : Int) : convV Try.prog 3 69 (.int k n) = some (.int .i8 (IntKind.i8.wrap n)) := rfl
theorem en36 : enterable Try.prog 36 = true := by kernel_rfl
theorem rs36 (env : Env) (m : Mem) : resV Try.prog Try.prog.funcs[36] env m = some (env 6) := resV_tmp rfl env m
theorem cv23_5 (k : IntKind) (n : Int) : convV Try.prog 23 5 (.int k n) = some (.int .u8 (IntKind.u8.wrap n)) := rfl
theorem en37 : enterable Try.prog 37 = true := by kernel_rfl
theorem rs37 (env : Env) (m : Mem) : resV Try.prog Try.prog.funcs[37] env m = some (env 4) := resV_tmp rfl env m
theorem en38 : enterable Try.prog 38 = true := by kernel_rfl
theorem rs38 (env : Env) (m : Mem) : resV Try.prog Try.prog.funcs[38] env m = some (env 4) := resV_tmp rfl env m
theorem en39 : enterable Try.prog 39 = true := by kernel_rfl
theorem rs39 (env : Env) (m : Mem) : resV Try.prog Try.prog.funcs[39] env m = loadV Try.prog m 27 (env 10) := resV_cell rfl env m
theorem en40 : enterable Try.prog 40 = true := by kernel_rfl
theorem rs40 (env : Env) (m : Mem) : resV Try.prog Try.prog.funcs[40] env m = some (env 12) := resV_tmp rfl env m
theorem en41 : enterable Try.prog 41 = true := by kernel_rfl
theorem rs41 (env : Env) (m : Mem) : resV Try.prog Try.prog.funcs[41] env m = some (env 2) := resV_tmp rfl env m
theorem en42 : enterable Try.prog 42 = true := by kernel_rfl
theorem rs42 (env : Env) (m : Mem) : resV Try.prog Try.prog.funcs[42] env m = some (env 6) := resV_tmp rfl env m
theorem en43 : enterable Try.prog 43 = true := by kernel_rfl
theorem rs43 (env : Env) (m : Mem) : resV Try.prog Try.prog.funcs[43] env m = some (env 4) := resV_tmp rfl env m
theorem en44 : enterable Try.prog 44 = true := by kernel_rfl
theorem rs44 (env : Env) (m : Mem) : resV Try.prog Try.prog.funcs[44] env m = some (env 4) := resV_tmp rfl env m
theorem en45 : enterable Try.prog 45 = true := by kernel_rfl
theorem rs45 (env : Env) (m : Mem) : resV Try.prog Try.prog.funcs[45] env m = some (env 6) := resV_tmp rfl env m
theorem en46 : enterable Try.prog 46 = true := by kernel_rfl
theorem rs46 (env : Env) (m : Mem) : resV Try.prog Try.prog.funcs[46] env m = some (env 4) := resV_tmp rfl env m
theorem en47 : enterable Try.prog 47 = true := by kernel_rfl
theorem rs47 (env : Env) (m : Mem) : resV Try.prog Try.prog.funcs[47] env m = some (env 2) := resV_tmp rfl env m
theorem ix71 (p q : V) : indexV Try.prog 71 p q = indexA 11 false 1 p q := by cases p <;> cases q <;> rfl
theorem en48 : enterable Try.prog 48 = true := by kernel_rfl
theorem rs48 (env : Env) (m : Mem) : resV Try.prog Try.prog.funcs[48] env m = some (env 2) := resV_tmp rfl env m
theorem en49 : enterable Try.prog 49 = true := by kernel_rfl
theorem rs49 (env : Env) (m : Mem) : resV Try.prog Try.prog.funcs[49] env m = loadV Try.prog m 71 (env 0) := resV_cell rfl env m
theorem al71 (m : Mem) : allocV Try.prog 71 m = some (.ptr m.length 0, m ++ [.var 71 (cl .i64 11 fun _ => 0)]) := by kernel_rfl
theorem st71 (m : Mem) (p v : V) : storeV Try.prog 71 m p v = storeK 11 m p v := storeV_of (i := (Try.prog.info? 71).get rfl) rfl p v
theorem ld71 (m : Mem) (p : V) : loadV Try.prog m 71 p = loadK true 11 m p := loadV_of (fun _ _ => rfl) p
end Go.Proofs.Ytmbjjelbpnbmoaa
