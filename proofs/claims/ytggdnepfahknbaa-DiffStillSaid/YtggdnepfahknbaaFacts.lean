/- Facts on the program's types. No condition. -/
import Derived.Test.YtggdnepfahknbaaAm7
import Derived.Test.YtggdnepfahknbaaProg
namespace Go.Proofs.Ytggdnepfahknbaa
open Go Ab
set_option linter.unusedSimpArgs false
set_option linter.unusedVariables false
set_option maxRecDepth 20000
theorem fol : Try.prog.follows .mixedOrders = true := by kernel_rfl
theorem en2 : enterable Try.prog 2 = true := by kernel_rfl
theorem en3 : enterable Try.prog 3 = true := by kernel_rfl
theorem rs3 (env : Env) (m : Mem) : resV Try.prog Try.prog.funcs[3] env m = some (env 4) := resV_tmp rfl env m
theorem en4 : enterable Try.prog 4 = true := by kernel_rfl
theorem rs4 (env : Env) (m : Mem) : resV Try.prog Try.prog.funcs[4] env m = some (env 4) := resV_tmp rfl env m
theorem lni22 (m : Mem) (sz : Nat) (es : List (List V)) : lenV Try.prog m 22 (.isl sz es) = some (.int .i64 es.length) := rfl
theorem lns22 (m : Mem) (sz n off len : Nat) : lenV Try.prog m 22 (.sl sz n off len) = some (.int .i64 len) := rfl
theorem lnn22 (m : Mem) : lenV Try.prog m 22 .nils = some (.int .i64 0) := rfl
theorem ia22 (p q : V) : iaddrV Try.prog 22 p q = iaddrS 25 p q := by cases p <;> cases q <;> rfl
theorem fa36_0 (p : V) : faddrV Try.prog 36 0 p = faddrK 0 p := by cases p <;> rfl
theorem ld3 (m : Mem) (p : V) : loadV Try.prog m 3 p = loadK false 1 m p := loadV_of (fun _ _ => rfl) p
theorem fa36_1 (p : V) : faddrV Try.prog 36 1 p = faddrK 1 p := by cases p <;> rfl
theorem ld33 (m : Mem) (p : V) : loadV Try.prog m 33 p = loadK true 22 m p := loadV_of (fun _ _ => rfl) p
theorem ea33 (f g : Nat → Int) (hf : inK .u64 22 f) (hg : inK .u64 22 g) : eqV Try.prog 33 (.agg (cl .u64 22 f)) (.agg (cl .u64 22 g)) = some (eqN 22 f g) := eqV_cl2 (by kernel_rfl) (by kernel_rfl) hf hg
theorem ld36 (m : Mem) (p : V) : loadV Try.prog m 36 p = loadK true 25 m p := loadV_of (fun _ _ => rfl) p
theorem lni26 (m : Mem) (sz : Nat) (es : List (List V)) : lenV Try.prog m 26 (.isl sz es) = some (.int .i64 es.length) := rfl
theorem lns26 (m : Mem) (sz n off len : Nat) : lenV Try.prog m 26 (.sl sz n off len) = some (.int .i64 len) := rfl
theorem lnn26 (m : Mem) : lenV Try.prog m 26 .nils = some (.int .i64 0) := rfl
theorem ia26 (p q : V) : iaddrV Try.prog 26 p q = iaddrS 36 p q := by cases p <;> cases q <;> rfl
theorem fa45_3 (p : V) : faddrV Try.prog 45 3 p = faddrK 3 p := by cases p <;> rfl
theorem en5 : enterable Try.prog 5 = true := by kernel_rfl
theorem rs5 (env : Env) (m : Mem) : resV Try.prog Try.prog.funcs[5] env m = some (env 4) := resV_tmp rfl env m
theorem fa45_2 (p : V) : faddrV Try.prog 45 2 p = faddrK 2 p := by cases p <;> rfl
theorem ld38 (m : Mem) (p : V) : loadV Try.prog m 38 p = loadK false 1 m p := loadV_of (fun _ _ => rfl) p
theorem en6 : enterable Try.prog 6 = true := by kernel_rfl
theorem rs6 (env : Env) (m : Mem) : resV Try.prog Try.prog.funcs[6] env m = some (env 2) := resV_tmp rfl env m
theorem fa36_2 (p : V) : faddrV Try.prog 36 2 p = faddrK 23 p := by cases p <;> rfl
theorem ld34 (m : Mem) (p : V) : loadV Try.prog m 34 p = loadK false 1 m p := loadV_of (fun _ _ => rfl) p
theorem lni34 (m : Mem) (sz : Nat) (es : List (List V)) : lenV Try.prog m 34 (.isl sz es) = some (.int .i64 es.length) := rfl
theorem lns34 (m : Mem) (sz n off len : Nat) : lenV Try.prog m 34 (.sl sz n off len) = some (.int .i64 len) := rfl
theorem lnn34 (m : Mem) : lenV Try.prog m 34 .nils = some (.int .i64 0) := rfl
theorem ia34 (p q : V) : iaddrV Try.prog 34 p q = iaddrS 1 p q := by cases p <;> cases q <;> rfl
theorem ld46 (m : Mem) (p : V) : loadV Try.prog m 46 p = loadK false 1 m p := loadV_of (fun _ _ => rfl) p
theorem lni46 (m : Mem) (sz : Nat) (es : List (List V)) : lenV Try.prog m 46 (.isl sz es) = some (.int .i64 es.length) := rfl
theorem lns46 (m : Mem) (sz n off len : Nat) : lenV Try.prog m 46 (.sl sz n off len) = some (.int .i64 len) := rfl
theorem lnn46 (m : Mem) : lenV Try.prog m 46 .nils = some (.int .i64 0) := rfl
theorem en7 : enterable Try.prog 7 = true := by kernel_rfl
theorem rs7 (env : Env) (m : Mem) : resV Try.prog Try.prog.funcs[7] env m = some (env 0) := resV_tmp rfl env m
theorem en8 : enterable Try.prog 8 = true := by kernel_rfl
theorem rs8 (env : Env) (m : Mem) : resV Try.prog Try.prog.funcs[8] env m = some (env 4) := resV_tmp rfl env m
theorem ld45 (m : Mem) (p : V) : loadV Try.prog m 45 p = loadK true 36 m p := loadV_of (fun _ _ => rfl) p
theorem en9 : enterable Try.prog 9 = true := by kernel_rfl
theorem rs9 (env : Env) (m : Mem) : resV Try.prog Try.prog.funcs[9] env m = some (env 4) := resV_tmp rfl env m
theorem lni50 (m : Mem) (sz : Nat) (es : List (List V)) : lenV Try.prog m 50 (.isl sz es) = some (.int .i64 es.length) := rfl
theorem lns50 (m : Mem) (sz n off len : Nat) : lenV Try.prog m 50 (.sl sz n off len) = some (.int .i64 len) := rfl
theorem lnn50 (m : Mem) : lenV Try.prog m 50 .nils = some (.int .i64 0) := rfl
theorem ia50 (p q : V) : iaddrV Try.prog 50 p q = iaddrS 23 p q := by cases p <;> cases q <;> rfl
theorem ld54 (m : Mem) (p : V) : loadV Try.prog m 54 p = loadK true 23 m p := loadV_of (fun _ _ => rfl) p
theorem al54 (m : Mem) : allocV Try.prog 54 m = some (.ptr m.length 0, m ++ [.var 54 ([.int .i64 0, .int .u64 0, .int .u64 0, .int .u64 0, .int .u64 0, .int .u64 0, .int .u64 0, .int .u64 0, .int .u64 0, .int .u64 0, .int .u64 0, .int .u64 0, .int .u64 0, .int .u64 0, .int .u64 0, .int .u64 0, .int .u64 0, .int .u64 0, .int .u64 0, .int .u64 0, .int .u64 0, .int .u64 0, .int .u64 0])]) := by kernel_rfl
theorem st54 (m : Mem) (p v : V) : storeV Try.prog 54 m p v = storeK 23 m p v := storeV_of (i := (Try.prog.info? 54).get rfl) rfl p v
theorem al36 (m : Mem) : allocV Try.prog 36 m = some (.ptr m.length 0, m ++ [.var 36 ([.int .i64 0, .int .u64 0, .int .u64 0, .int .u64 0, .int .u64 0, .int .u64 0, .int .u64 0, .int .u64 0, .int .u64 0, .int .u64 0, .int .u64 0, .int .u64 0, .int .u64 0, .int .u64 0, .int .u64 0, .int .u64 0, .int .u64 0, .int .u64 0, .int .u64 0, .int .u64 0, .int .u64 0, .int .u64 0, .int .u64 0, .nils, .int .u64 0])]) := by kernel_rfl
theorem st36 (m : Mem) (p v : V) : storeV Try.prog 36 m p v = storeK 25 m p v := storeV_of (i := (Try.prog.info? 36).get rfl) rfl p v
theorem fa54_0 (p : V) : faddrV Try.prog 54 0 p = faddrK 0 p := by cases p <;> rfl
theorem fa54_1 (p : V) : faddrV Try.prog 54 1 p = faddrK 1 p := by cases p <;> rfl
theorem fa36_3 (p : V) : faddrV Try.prog 36 3 p = faddrK 24 p := by cases p <;> rfl
theorem ld29 (m : Mem) (p : V) : loadV Try.prog m 29 p = loadK false 1 m p := loadV_of (fun _ _ => rfl) p
theorem st34 (m : Mem) (p v : V) : storeV Try.prog 34 m p v = storeK 1 m p v := storeV_of (i := (Try.prog.info? 34).get rfl) rfl p v
theorem en10 : enterable Try.prog 10 = true := by kernel_rfl
theorem rs10 (env : Env) (m : Mem) : resV Try.prog Try.prog.funcs[10] env m = some (env 4) := resV_tmp rfl env m
theorem en11 : enterable Try.prog 11 = true := by kernel_rfl
theorem rs11 (env : Env) (m : Mem) : resV Try.prog Try.prog.funcs[11] env m = some (env 4) := resV_tmp rfl env m
theorem en12 : enterable Try.prog 12 = true := by kernel_rfl
theorem rs12 (env : Env) (m : Mem) : resV Try.prog Try.prog.funcs[12] env m = loadV Try.prog m 36 (env 6) := resV_cell rfl env m
theorem st3 (m : Mem) (p v : V) : storeV Try.prog 3 m p v = storeK 1 m p v := storeV_of (i := (Try.prog.info? 3).get rfl) rfl p v
theorem fa33_0 (p : V) : faddrV Try.prog 33 0 p = faddrK 0 p := by cases p <;> rfl
theorem ia31 (p q : V) : iaddrV Try.prog 31 p q = iaddrA 11 1 p q := by cases p <;> cases q <;> rfl
theorem st29 (m : Mem) (p v : V) : storeV Try.prog 29 m p v = storeK 1 m p v := storeV_of (i := (Try.prog.info? 29).get rfl) rfl p v
theorem fa33_1 (p : V) : faddrV Try.prog 33 1 p = faddrK 11 p := by cases p <;> rfl
theorem en13 : enterable Try.prog 13 = true := by kernel_rfl
theorem rs13 (env : Env) (m : Mem) : resV Try.prog Try.prog.funcs[13] env m = some (env 4) := resV_tmp rfl env m
theorem fa45_0 (p : V) : faddrV Try.prog 45 0 p = faddrK 0 p := by cases p <;> rfl
theorem fa45_1 (p : V) : faddrV Try.prog 45 1 p = faddrK 1 p := by cases p <;> rfl
theorem ld39 (m : Mem) (p : V) : loadV Try.prog m 39 p = loadK false 1 m p := loadV_of (fun _ _ => rfl) p
theorem fa45_4 (p : V) : faddrV Try.prog 45 4 p = faddrK 28 p := by cases p <;> rfl
theorem ld40 (m : Mem) (p : V) : loadV Try.prog m 40 p = loadK false 1 m p := loadV_of (fun _ _ => rfl) p
theorem fa45_5 (p : V) : faddrV Try.prog 45 5 p = faddrK 29 p := by cases p <;> rfl
theorem ld4 (m : Mem) (p : V) : loadV Try.prog m 4 p = loadK false 1 m p := loadV_of (fun _ _ => rfl) p
theorem eqb4 : isBoolT Try.prog 4 = true := by kernel_rfl
theorem fa45_6 (p : V) : faddrV Try.prog 45 6 p = faddrK 30 p := by cases p <;> rfl
theorem fa45_11 (p : V) : faddrV Try.prog 45 11 p = faddrK 35 p := by cases p <;> rfl
theorem fa45_9 (p : V) : faddrV Try.prog 45 9 p = faddrK 33 p := by cases p <;> rfl
theorem ld42 (m : Mem) (p : V) : loadV Try.prog m 42 p = loadK false 1 m p := loadV_of (fun _ _ => rfl) p
theorem cvi42_9 (es : List (List V)) : convV Try.prog 42 9 (.isl 1 es) = (numsV es).map fun xs => .str (strOfNums xs) := by kernel_rfl
theorem cvn42_9 : convV Try.prog 42 9 .nils = some (.str ByteArray.empty) := by kernel_rfl
theorem fa45_7 (p : V) : faddrV Try.prog 45 7 p = faddrK 31 p := by cases p <;> rfl
theorem ld41 (m : Mem) (p : V) : loadV Try.prog m 41 p = loadK false 1 m p := loadV_of (fun _ _ => rfl) p
theorem fa45_8 (p : V) : faddrV Try.prog 45 8 p = faddrK 32 p := by cases p <;> rfl
theorem fa45_10 (p : V) : faddrV Try.prog 45 10 p = faddrK 34 p := by cases p <;> rfl
theorem ld43 (m : Mem) (p : V) : loadV Try.prog m 43 p = loadK false 1 m p := loadV_of (fun _ _ => rfl) p
theorem lni43 (m : Mem) (sz : Nat) (es : List (List V)) : lenV Try.prog m 43 (.isl sz es) = some (.int .i64 es.length) := rfl
theorem lns43 (m : Mem) (sz n off len : Nat) : lenV Try.prog m 43 (.sl sz n off len) = some (.int .i64 len) := rfl
theorem lnn43 (m : Mem) : lenV Try.prog m 43 .nils = some (.int .i64 0) := rfl
theorem ia43 (p q : V) : iaddrV Try.prog 43 p q = iaddrS 27 p q := by cases p <;> cases q <;> rfl
theorem fa67_1 (p : V) : faddrV Try.prog 67 1 p = faddrK 25 p := by cases p <;> rfl
theorem ld65 (m : Mem) (p : V) : loadV Try.prog m 65 p = loadK true 2 m p := loadV_of (fun _ _ => rfl) p
theorem ea65 (f g : Nat → Int) (hf : inK .u64 2 f) (hg : inK .u64 2 g) : eqV Try.prog 65 (.agg (cl .u64 2 f)) (.agg (cl .u64 2 g)) = some (eqN 2 f g) := eqV_cl2 (by kernel_rfl) (by kernel_rfl) hf hg
theorem fa67_0 (p : V) : faddrV Try.prog 67 0 p = faddrK 0 p := by cases p <;> rfl
theorem en14 : enterable Try.prog 14 = true := by kernel_rfl
theorem rs14 (env : Env) (m : Mem) : resV Try.prog Try.prog.funcs[14] env m = some (.tup [env 2, env 3]) := resV_tmp_tmp rfl env m
theorem al50 (m : Mem) : allocV Try.prog 50 m = some (.ptr m.length 0, m ++ [.var 50 ([.nils])]) := by kernel_rfl
theorem al69 (m : Mem) : allocV Try.prog 69 m = some (.ptr m.length 0, m ++ [.var 69 ([.nilm])]) := by kernel_rfl
theorem st69 (m : Mem) (p v : V) : storeV Try.prog 69 m p v = storeK 1 m p v := storeV_of (i := (Try.prog.info? 69).get rfl) rfl p v
theorem ld69 (m : Mem) (p : V) : loadV Try.prog m 69 p = loadK false 1 m p := loadV_of (fun _ _ => rfl) p
theorem ld50 (m : Mem) (p : V) : loadV Try.prog m 50 p = loadK false 1 m p := loadV_of (fun _ _ => rfl) p
theorem st50 (m : Mem) (p v : V) : storeV Try.prog 50 m p v = storeK 1 m p v := storeV_of (i := (Try.prog.info? 50).get rfl) rfl p v
theorem en15 : enterable Try.prog 15 = true := by kernel_rfl
theorem rs15 (env : Env) (m : Mem) : resV Try.prog Try.prog.funcs[15] env m = some (env 4) := resV_tmp rfl env m
theorem en16 : enterable Try.prog 16 = true := by kernel_rfl
theorem en17 : enterable Try.prog 17 = true := by kernel_rfl
theorem rs17 (env : Env) (m : Mem) : resV Try.prog Try.prog.funcs[17] env m = some (env 2) := resV_tmp rfl env m
theorem en18 : enterable Try.prog 18 = true := by kernel_rfl
theorem rs18 (env : Env) (m : Mem) : resV Try.prog Try.prog.funcs[18] env m = some (env 2) := resV_tmp rfl env m
theorem en19 : enterable Try.prog 19 = true := by kernel_rfl
theorem rs19 (env : Env) (m : Mem) : resV Try.prog Try.prog.funcs[19] env m = some (env 2) := resV_tmp rfl env m
theorem en20 : enterable Try.prog 20 = true := by kernel_rfl
theorem rs20 (env : Env) (m : Mem) : resV Try.prog Try.prog.funcs[20] env m = some (env 4) := resV_tmp rfl env m
theorem en21 : enterable Try.prog 21 = true := by kernel_rfl
theorem rs21 (env : Env) (m : Mem) : resV Try.prog Try.prog.funcs[21] env m = some (env 4) := resV_tmp rfl env m
theorem en22 : enterable Try.prog 22 = true := by kernel_rfl
theorem rs22 (env : Env) (m : Mem) : resV Try.prog Try.prog.funcs[22] env m = some (env 4) := resV_tmp rfl env m
theorem lni41 (m : Mem) (sz : Nat) (es : List (List V)) : lenV Try.prog m 41 (.isl sz es) = some (.int .i64 es.length) := rfl
theorem lns41 (m : Mem) (sz n off len : Nat) : lenV Try.prog m 41 (.sl sz n off len) = some (.int .i64 len) := rfl
theorem lnn41 (m : Mem) : lenV Try.prog m 41 .nils = some (.int .i64 0) := rfl
theorem ia41 (p q : V) : iaddrV Try.prog 41 p q = iaddrS 1 p q := by cases p <;> cases q <;> rfl
theorem en23 : enterable Try.prog 23 = true := by kernel_rfl
theorem rs23 (env : Env) (m : Mem) : resV Try.prog Try.prog.funcs[23] env m = some (env 4) := resV_tmp rfl env m
theorem en24 : enterable Try.prog 24 = true := by kernel_rfl
theorem rs24 (env : Env) (m : Mem) : resV Try.prog Try.prog.funcs[24] env m = loadV Try.prog m 54 (env 2) := resV_cell rfl env m
theorem en25 : enterable Try.prog 25 = true := by kernel_rfl
theorem rs25 (env : Env) (m : Mem) : resV Try.prog Try.prog.funcs[25] env m = some (env 2) := resV_tmp rfl env m
theorem en26 : enterable Try.prog 26 = true := by kernel_rfl
theorem en27 : enterable Try.prog 27 = true := by kernel_rfl
theorem rs27 (env : Env) (m : Mem) : resV Try.prog Try.prog.funcs[27] env m = some (env 6) := resV_tmp rfl env m
theorem en28 : enterable Try.prog 28 = true := by kernel_rfl
theorem rs28 (env : Env) (m : Mem) : resV Try.prog Try.prog.funcs[28] env m = some (env 4) := resV_tmp rfl env m
theorem en29 : enterable Try.prog 29 = true := by kernel_rfl
theorem rs29 (env : Env) (m : Mem) : resV Try.prog Try.prog.funcs[29] env m = some (env 4) := resV_tmp rfl env m
theorem ia46 (p q : V) : iaddrV Try.prog 46 p q = iaddrS 3 p q := by cases p <;> cases q <;> rfl
theorem ld61 (m : Mem) (p : V) : loadV Try.prog m 61 p = loadK true 3 m p := loadV_of (fun _ _ => rfl) p
theorem en30 : enterable Try.prog 30 = true := by kernel_rfl
theorem en31 : enterable Try.prog 31 = true := by kernel_rfl
theorem rs31 (env : Env) (m : Mem) : resV Try.prog Try.prog.funcs[31] env m = some (env 5) := resV_tmp rfl env m
theorem ld58 (m : Mem) (p : V) : loadV Try.prog m 58 p = loadK false 1 m p := loadV_of (fun _ _ => rfl) p
theorem en32 : enterable Try.prog 32 = true := by kernel_rfl
theorem rs32 (env : Env) (m : Mem) : resV Try.prog Try.prog.funcs[32] env m = some (env 4) := resV_tmp rfl env m
theorem en33 : enterable Try.prog 33 = true := by kernel_rfl
theorem rs33 (env : Env) (m : Mem) : resV Try.prog Try.prog.funcs[33] env m = some (env 4) := resV_tmp rfl env m
theorem en34 : enterable Try.prog 34 = true := by kernel_rfl
theorem rs34 (env : Env) (m : Mem) : resV Try.prog Try.prog.funcs[34] env m = some (env 4) := resV_tmp rfl env m
theorem en35 : enterable Try.prog 35 = true := by kernel_rfl
theorem ld22 (m : Mem) (p : V) : loadV Try.prog m 22 p = loadK false 1 m p := loadV_of (fun _ _ => rfl) p
theorem en36 : enterable Try.prog 36 = true := by kernel_rfl
theorem en37 : enterable Try.prog 37 = true := by kernel_rfl
theorem rs37 (env : Env) (m : Mem) : resV Try.prog Try.prog.funcs[37] env m = some (env 2) := resV_tmp rfl env m
theorem en38 : enterable Try.prog 38 = true := by kernel_rfl
theorem en39 : enterable Try.prog 39 = true := by kernel_rfl
theorem cv3_84 (k : IntKind) (n : Int) : convV Try.prog 3 84 (.int k n) = some (.int .u64 (IntKind.u64.wrap n)) := rfl
theorem cv84_3 (k : IntKind) (n : Int) : convV Try.prog 84 3 (.int k n) = some (.int .i64 (IntKind.i64.wrap n)) := rfl
theorem en40 : enterable Try.prog 40 = true := by kernel_rfl
theorem en41 : enterable Try.prog 41 = true := by kernel_rfl
end Go.Proofs.Ytggdnepfahknbaa
