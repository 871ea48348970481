/- The gates: types and contracts. No condition. -/
import Derived.Test.YtkjoldifiniliaaAb18
import Derived.Test.YtkjoldifiniliaaRows
set_option linter.unusedVariables false
set_option linter.unusedSimpArgs false
namespace Go.Ab
open Go.Proofs
theorem ts0 : tshape Try.prog 0 = some .sc := by kernel_rfl
theorem us0 : (Try.prog.underlying 0).isSome = true := by kernel_rfl
theorem ts1 : tshape Try.prog 1 = some .sc := by kernel_rfl
theorem us1 : (Try.prog.underlying 1).isSome = true := by kernel_rfl
theorem z1 : zero? Try.prog 1 = some (.sc, .nilf) := by kernel_rfl
theorem ts2 : tshape Try.prog 2 = some .sc := by kernel_rfl
theorem us2 : (Try.prog.underlying 2).isSome = true := by kernel_rfl
theorem z2 : zero? Try.prog 2 = some (.sc, (.int .i64 0)) := by kernel_rfl
theorem ts3 : tshape Try.prog 3 = some .sc := by kernel_rfl
theorem us3 : (Try.prog.underlying 3).isSome = true := by kernel_rfl
theorem z3 : zero? Try.prog 3 = some (.sc, (.int .i64 0)) := by kernel_rfl
theorem ts4 : tshape Try.prog 4 = some .sc := by kernel_rfl
theorem us4 : (Try.prog.underlying 4).isSome = true := by kernel_rfl
theorem z4 : zero? Try.prog 4 = some (.sc, (.bool false)) := by kernel_rfl
theorem ts5 : tshape Try.prog 5 = some .sc := by kernel_rfl
theorem us5 : (Try.prog.underlying 5).isSome = true := by kernel_rfl
theorem z5 : zero? Try.prog 5 = some (.sc, (.int .u8 0)) := by kernel_rfl
theorem ts6 : tshape Try.prog 6 = some .sc := by kernel_rfl
theorem us6 : (Try.prog.underlying 6).isSome = true := by kernel_rfl
theorem z6 : zero? Try.prog 6 = some (.sc, (.int .u8 0)) := by kernel_rfl
theorem ts7 : tshape Try.prog 7 = some (.cons .sc (.cons .sc (.cons .sc (.cons .sc .nl)))) := by kernel_rfl
theorem us7 : (Try.prog.underlying 7).isSome = true := by kernel_rfl
theorem z7 : zero? Try.prog 7 = some ((.cons .sc (.cons .sc (.cons .sc (.cons .sc .nl)))), (.cons (.int .i64 0) (.cons (.int .i64 0) (.cons (.bool false) (.cons (.int .u8 0) .nl))))) := by kernel_rfl
theorem fd7_0 : fdAt Try.prog 7 0 = some 0 := by kernel_rfl
theorem fd7_1 : fdAt Try.prog 7 1 = some 1 := by kernel_rfl
theorem fd7_2 : fdAt Try.prog 7 2 = some 2 := by kernel_rfl
theorem fd7_3 : fdAt Try.prog 7 3 = some 3 := by kernel_rfl
theorem ts8 : tshape Try.prog 8 = some (.cons .sc (.cons .sc (.cons .sc (.cons .sc .nl)))) := by kernel_rfl
theorem us8 : (Try.prog.underlying 8).isSome = true := by kernel_rfl
theorem z8 : zero? Try.prog 8 = some ((.cons .sc (.cons .sc (.cons .sc (.cons .sc .nl)))), (.cons (.int .i64 0) (.cons (.int .i64 0) (.cons (.bool false) (.cons (.int .u8 0) .nl))))) := by kernel_rfl
theorem fd8_0 : fdAt Try.prog 8 0 = some 0 := by kernel_rfl
theorem fd8_1 : fdAt Try.prog 8 1 = some 1 := by kernel_rfl
theorem fd8_2 : fdAt Try.prog 8 2 = some 2 := by kernel_rfl
theorem fd8_3 : fdAt Try.prog 8 3 = some 3 := by kernel_rfl
theorem ts9 : tshape Try.prog 9 = some .sc := by kernel_rfl
theorem us9 : (Try.prog.underlying 9).isSome = true := by kernel_rfl
theorem z9 : zero? Try.prog 9 = some (.sc, (.str ⟨#[]⟩)) := by kernel_rfl
theorem ts10 : tshape Try.prog 10 = some .sc := by kernel_rfl
theorem us10 : (Try.prog.underlying 10).isSome = true := by kernel_rfl
theorem z10 : zero? Try.prog 10 = some (.sc, (.str ⟨#[]⟩)) := by kernel_rfl
theorem ts11 : tshape Try.prog 11 = some .sc := by kernel_rfl
theorem us11 : (Try.prog.underlying 11).isSome = true := by kernel_rfl
theorem z11 : zero? Try.prog 11 = some (.sc, (.str ⟨#[]⟩)) := by kernel_rfl
theorem ts12 : tshape Try.prog 12 = some .sc := by kernel_rfl
theorem us12 : (Try.prog.underlying 12).isSome = true := by kernel_rfl
theorem z12 : zero? Try.prog 12 = some (.sc, (.int .u64 0)) := by kernel_rfl
theorem ts13 : tshape Try.prog 13 = some (.cons .sc (.cons .sc .nl)) := by kernel_rfl
theorem us13 : (Try.prog.underlying 13).isSome = true := by kernel_rfl
theorem z13 : zero? Try.prog 13 = some ((.cons .sc (.cons .sc .nl)), (.cons (.str ⟨#[]⟩) (.cons (.int .u64 0) .nl))) := by kernel_rfl
theorem fd13_0 : fdAt Try.prog 13 0 = some 0 := by kernel_rfl
theorem fd13_1 : fdAt Try.prog 13 1 = some 1 := by kernel_rfl
theorem ts14 : tshape Try.prog 14 = some (.cons .sc (.cons .sc .nl)) := by kernel_rfl
theorem us14 : (Try.prog.underlying 14).isSome = true := by kernel_rfl
theorem z14 : zero? Try.prog 14 = some ((.cons .sc (.cons .sc .nl)), (.cons (.str ⟨#[]⟩) (.cons (.int .u64 0) .nl))) := by kernel_rfl
theorem fd14_0 : fdAt Try.prog 14 0 = some 0 := by kernel_rfl
theorem fd14_1 : fdAt Try.prog 14 1 = some 1 := by kernel_rfl
theorem ts15 : tshape Try.prog 15 = some .sc := by kernel_rfl
theorem us15 : (Try.prog.underlying 15).isSome = true := by kernel_rfl
theorem z15 : zero? Try.prog 15 = some (.sc, .nilp) := by kernel_rfl
theorem ts16 : tshape Try.prog 16 = some .sc := by kernel_rfl
theorem us16 : (Try.prog.underlying 16).isSome = true := by kernel_rfl
theorem z16 : zero? Try.prog 16 = some (.sc, .nilp) := by kernel_rfl
theorem ts17 : tshape Try.prog 17 = some .sc := by kernel_rfl
theorem us17 : (Try.prog.underlying 17).isSome = true := by kernel_rfl
theorem z17 : zero? Try.prog 17 = some (.sc, .nilp) := by kernel_rfl
theorem ts18 : tshape Try.prog 18 = some (.cons .sc .nl) := by kernel_rfl
theorem us18 : (Try.prog.underlying 18).isSome = true := by kernel_rfl
theorem z18 : zero? Try.prog 18 = some ((.cons .sc .nl), (.cons .nilp .nl)) := by kernel_rfl
theorem fd18_0 : fdAt Try.prog 18 0 = some 0 := by kernel_rfl
theorem ts19 : tshape Try.prog 19 = some (.cons .sc .nl) := by kernel_rfl
theorem us19 : (Try.prog.underlying 19).isSome = true := by kernel_rfl
theorem z19 : zero? Try.prog 19 = some ((.cons .sc .nl), (.cons .nilp .nl)) := by kernel_rfl
theorem fd19_0 : fdAt Try.prog 19 0 = some 0 := by kernel_rfl
theorem ts20 : tshape Try.prog 20 = some .sc := by kernel_rfl
theorem us20 : (Try.prog.underlying 20).isSome = true := by kernel_rfl
theorem ts21 : tshape Try.prog 21 = some .sc := by kernel_rfl
theorem us21 : (Try.prog.underlying 21).isSome = true := by kernel_rfl
theorem z21 : zero? Try.prog 21 = some (.sc, (.int .i32 0)) := by kernel_rfl
theorem ts22 : tshape Try.prog 22 = some (.cons .sc (.cons .sc .nl)) := by kernel_rfl
theorem us22 : (Try.prog.underlying 22).isSome = true := by kernel_rfl
theorem z22 : zero? Try.prog 22 = some ((.cons .sc (.cons .sc .nl)), (.cons (.int .i64 0) (.cons (.int .i64 0) .nl))) := by kernel_rfl
theorem fd22_0 : fdAt Try.prog 22 0 = some 0 := by kernel_rfl
theorem fd22_1 : fdAt Try.prog 22 1 = some 1 := by kernel_rfl
theorem ts23 : tshape Try.prog 23 = some (.cons .sc (.cons .sc .nl)) := by kernel_rfl
theorem us23 : (Try.prog.underlying 23).isSome = true := by kernel_rfl
theorem z23 : zero? Try.prog 23 = some ((.cons .sc (.cons .sc .nl)), (.cons (.int .i64 0) (.cons (.int .i64 0) .nl))) := by kernel_rfl
theorem fd23_0 : fdAt Try.prog 23 0 = some 0 := by kernel_rfl
theorem fd23_1 : fdAt Try.prog 23 1 = some 1 := by kernel_rfl
theorem ts24 : tshape Try.prog 24 = some .sc := by kernel_rfl
theorem us24 : (Try.prog.underlying 24).isSome = true := by kernel_rfl
theorem z24 : zero? Try.prog 24 = some (.sc, (.int .i64 0)) := by kernel_rfl
theorem ts25 : tshape Try.prog 25 = some .sc := by kernel_rfl
theorem us25 : (Try.prog.underlying 25).isSome = true := by kernel_rfl
theorem ts26 : tshape Try.prog 26 = some .sc := by kernel_rfl
theorem us26 : (Try.prog.underlying 26).isSome = true := by kernel_rfl
theorem z26 : zero? Try.prog 26 = some (.sc, .nilf) := by kernel_rfl
theorem ts27 : tshape Try.prog 27 = some .sc := by kernel_rfl
theorem us27 : (Try.prog.underlying 27).isSome = true := by kernel_rfl
theorem z27 : zero? Try.prog 27 = some (.sc, .nilf) := by kernel_rfl
theorem ts28 : tshape Try.prog 28 = some .sc := by kernel_rfl
theorem us28 : (Try.prog.underlying 28).isSome = true := by kernel_rfl
theorem z28 : zero? Try.prog 28 = some (.sc, .nilf) := by kernel_rfl
theorem ts29 : tshape Try.prog 29 = some .sc := by kernel_rfl
theorem us29 : (Try.prog.underlying 29).isSome = true := by kernel_rfl
theorem z29 : zero? Try.prog 29 = some (.sc, .nilf) := by kernel_rfl
theorem ts30 : tshape Try.prog 30 = some .sc := by kernel_rfl
theorem us30 : (Try.prog.underlying 30).isSome = true := by kernel_rfl
theorem z30 : zero? Try.prog 30 = some (.sc, .nilf) := by kernel_rfl
theorem ts31 : tshape Try.prog 31 = some .sc := by kernel_rfl
theorem us31 : (Try.prog.underlying 31).isSome = true := by kernel_rfl
theorem z31 : zero? Try.prog 31 = some (.sc, .nilf) := by kernel_rfl
theorem ts32 : tshape Try.prog 32 = some .sc := by kernel_rfl
theorem us32 : (Try.prog.underlying 32).isSome = true := by kernel_rfl
theorem z32 : zero? Try.prog 32 = some (.sc, .nils) := by kernel_rfl
theorem ix32 : ixAt Try.prog 32 (.cons .sc (.cons .sc .nl)) = true := by kernel_rfl
theorem sl32 : slAt Try.prog 32 = true := by kernel_rfl
theorem ts33 : tshape Try.prog 33 = some .sc := by kernel_rfl
theorem us33 : (Try.prog.underlying 33).isSome = true := by kernel_rfl
theorem ts34 : tshape Try.prog 34 = some .sc := by kernel_rfl
theorem us34 : (Try.prog.underlying 34).isSome = true := by kernel_rfl
theorem z34 : zero? Try.prog 34 = some (.sc, .nilf) := by kernel_rfl
theorem ts35 : tshape Try.prog 35 = some .sc := by kernel_rfl
theorem us35 : (Try.prog.underlying 35).isSome = true := by kernel_rfl
theorem ts36 : tshape Try.prog 36 = some .sc := by kernel_rfl
theorem us36 : (Try.prog.underlying 36).isSome = true := by kernel_rfl
theorem z36 : zero? Try.prog 36 = some (.sc, .nilf) := by kernel_rfl
theorem ts37 : tshape Try.prog 37 = some .sc := by kernel_rfl
theorem us37 : (Try.prog.underlying 37).isSome = true := by kernel_rfl
theorem z37 : zero? Try.prog 37 = some (.sc, .nilf) := by kernel_rfl
theorem ts38 : tshape Try.prog 38 = some (.cons .sc (.cons .sc .nl)) := by kernel_rfl
theorem us38 : (Try.prog.underlying 38).isSome = true := by kernel_rfl
theorem z38 : zero? Try.prog 38 = some ((.cons .sc (.cons .sc .nl)), (.cons (.int .u8 0) (.cons (.int .i64 0) .nl))) := by kernel_rfl
theorem fd38_0 : fdAt Try.prog 38 0 = some 0 := by kernel_rfl
theorem fd38_1 : fdAt Try.prog 38 1 = some 1 := by kernel_rfl
theorem ts39 : tshape Try.prog 39 = some (.cons .sc (.cons .sc .nl)) := by kernel_rfl
theorem us39 : (Try.prog.underlying 39).isSome = true := by kernel_rfl
theorem z39 : zero? Try.prog 39 = some ((.cons .sc (.cons .sc .nl)), (.cons (.int .u8 0) (.cons (.int .i64 0) .nl))) := by kernel_rfl
theorem fd39_0 : fdAt Try.prog 39 0 = some 0 := by kernel_rfl
theorem fd39_1 : fdAt Try.prog 39 1 = some 1 := by kernel_rfl
theorem ts40 : tshape Try.prog 40 = some .sc := by kernel_rfl
theorem us40 : (Try.prog.underlying 40).isSome = true := by kernel_rfl
theorem z40 : zero? Try.prog 40 = some (.sc, .nilf) := by kernel_rfl
theorem ts41 : tshape Try.prog 41 = some .sc := by kernel_rfl
theorem us41 : (Try.prog.underlying 41).isSome = true := by kernel_rfl
theorem z41 : zero? Try.prog 41 = some (.sc, .nilf) := by kernel_rfl
theorem ts42 : tshape Try.prog 42 = some .sc := by kernel_rfl
theorem us42 : (Try.prog.underlying 42).isSome = true := by kernel_rfl
theorem z42 : zero? Try.prog 42 = some (.sc, .nilf) := by kernel_rfl
theorem ts43 : tshape Try.prog 43 = some .sc := by kernel_rfl
theorem us43 : (Try.prog.underlying 43).isSome = true := by kernel_rfl
theorem ts44 : tshape Try.prog 44 = some .sc := by kernel_rfl
theorem us44 : (Try.prog.underlying 44).isSome = true := by kernel_rfl
theorem z44 : zero? Try.prog 44 = some (.sc, .nilf) := by kernel_rfl
theorem ts45 : tshape Try.prog 45 = some .sc := by kernel_rfl
theorem us45 : (Try.prog.underlying 45).isSome = true := by kernel_rfl
theorem z45 : zero? Try.prog 45 = some (.sc, .nilf) := by kernel_rfl
theorem ts46 : tshape Try.prog 46 = some .sc := by kernel_rfl
theorem us46 : (Try.prog.underlying 46).isSome = true := by kernel_rfl
theorem z46 : zero? Try.prog 46 = some (.sc, .nilf) := by kernel_rfl
theorem ts47 : tshape Try.prog 47 = some .sc := by kernel_rfl
theorem us47 : (Try.prog.underlying 47).isSome = true := by kernel_rfl
theorem z47 : zero? Try.prog 47 = some (.sc, .nils) := by kernel_rfl
theorem ix47 : ixAt Try.prog 47 .sc = true := by kernel_rfl
theorem sl47 : slAt Try.prog 47 = true := by kernel_rfl
theorem ts48 : tshape Try.prog 48 = some .sc := by kernel_rfl
theorem us48 : (Try.prog.underlying 48).isSome = true := by kernel_rfl
theorem z48 : zero? Try.prog 48 = some (.sc, .nilf) := by kernel_rfl
theorem ts49 : tshape Try.prog 49 = some .sc := by kernel_rfl
theorem us49 : (Try.prog.underlying 49).isSome = true := by kernel_rfl
theorem z49 : zero? Try.prog 49 = some (.sc, .nilf) := by kernel_rfl
theorem ts50 : tshape Try.prog 50 = some .sc := by kernel_rfl
theorem us50 : (Try.prog.underlying 50).isSome = true := by kernel_rfl
theorem z50 : zero? Try.prog 50 = some (.sc, .nilf) := by kernel_rfl
theorem ts51 : tshape Try.prog 51 = some (.arr 4 .sc) := by kernel_rfl
theorem us51 : (Try.prog.underlying 51).isSome = true := by kernel_rfl
theorem z51 : zero? Try.prog 51 = some ((.arr 4 .sc), (.arr 4 fun _ => .nilf)) := by kernel_rfl
theorem ia51 : iaAt Try.prog 51 4 .sc = true := by kernel_rfl
theorem ts52 : tshape Try.prog 52 = some .sc := by kernel_rfl
theorem us52 : (Try.prog.underlying 52).isSome = true := by kernel_rfl
theorem z52 : zero? Try.prog 52 = some (.sc, .nilf) := by kernel_rfl
theorem ts53 : tshape Try.prog 53 = some .sc := by kernel_rfl
theorem us53 : (Try.prog.underlying 53).isSome = true := by kernel_rfl
theorem z53 : zero? Try.prog 53 = some (.sc, .nilf) := by kernel_rfl
theorem ts54 : tshape Try.prog 54 = some (.cons .sc (.cons .sc (.cons .sc (.cons .sc .nl)))) := by kernel_rfl
theorem us54 : (Try.prog.underlying 54).isSome = true := by kernel_rfl
theorem z54 : zero? Try.prog 54 = some ((.cons .sc (.cons .sc (.cons .sc (.cons .sc .nl)))), (.cons .nilp (.cons .nilp (.cons .nilp (.cons (.str ⟨#[]⟩) .nl))))) := by kernel_rfl
theorem fd54_0 : fdAt Try.prog 54 0 = some 0 := by kernel_rfl
theorem fd54_1 : fdAt Try.prog 54 1 = some 1 := by kernel_rfl
theorem fd54_2 : fdAt Try.prog 54 2 = some 2 := by kernel_rfl
theorem fd54_3 : fdAt Try.prog 54 3 = some 3 := by kernel_rfl
theorem ts55 : tshape Try.prog 55 = some (.cons .sc (.cons .sc (.cons .sc (.cons .sc .nl)))) := by kernel_rfl
theorem us55 : (Try.prog.underlying 55).isSome = true := by kernel_rfl
theorem z55 : zero? Try.prog 55 = some ((.cons .sc (.cons .sc (.cons .sc (.cons .sc .nl)))), (.cons .nilp (.cons .nilp (.cons .nilp (.cons (.str ⟨#[]⟩) .nl))))) := by kernel_rfl
theorem fd55_0 : fdAt Try.prog 55 0 = some 0 := by kernel_rfl
theorem fd55_1 : fdAt Try.prog 55 1 = some 1 := by kernel_rfl
theorem fd55_2 : fdAt Try.prog 55 2 = some 2 := by kernel_rfl
theorem fd55_3 : fdAt Try.prog 55 3 = some 3 := by kernel_rfl
theorem ts56 : tshape Try.prog 56 = some (.arr 0 .sc) := by kernel_rfl
theorem us56 : (Try.prog.underlying 56).isSome = true := by kernel_rfl
theorem z56 : zero? Try.prog 56 = some ((.arr 0 .sc), (.arr 0 fun _ => .nilp)) := by kernel_rfl
theorem ia56 : iaAt Try.prog 56 0 .sc = true := by kernel_rfl
theorem ts57 : tshape Try.prog 57 = some (.cons (.arr 0 .sc) .nl) := by kernel_rfl
theorem us57 : (Try.prog.underlying 57).isSome = true := by kernel_rfl
theorem z57 : zero? Try.prog 57 = some ((.cons (.arr 0 .sc) .nl), (.cons (.arr 0 fun _ => .nilp) .nl)) := by kernel_rfl
theorem ts58 : tshape Try.prog 58 = some (.cons (.arr 0 .sc) .nl) := by kernel_rfl
theorem us58 : (Try.prog.underlying 58).isSome = true := by kernel_rfl
theorem z58 : zero? Try.prog 58 = some ((.cons (.arr 0 .sc) .nl), (.cons (.arr 0 fun _ => .nilp) .nl)) := by kernel_rfl
theorem ts59 : tshape Try.prog 59 = some .sc := by kernel_rfl
theorem us59 : (Try.prog.underlying 59).isSome = true := by kernel_rfl
theorem z59 : zero? Try.prog 59 = some (.sc, .nilf) := by kernel_rfl
theorem eql23 (x0 : Int) (x1 : Int) (y0 : Int) (y1 : Int) : aBin Try.prog .eql 23 (.cons (.int .i64 x0) (.cons (.int .i64 x1) .nl)) (.cons (.int .i64 y0) (.cons (.int .i64 y1) .nl)) = okP (pureE (.bool (((x0 == y0) && ((x1 == y1) && true))))) := by kernel_rfl
theorem neq23 (x0 : Int) (x1 : Int) (y0 : Int) (y1 : Int) : aBin Try.prog .neq 23 (.cons (.int .i64 x0) (.cons (.int .i64 x1) .nl)) (.cons (.int .i64 y0) (.cons (.int .i64 y1) .nl)) = okP (pureE (.bool (!((x0 == y0) && ((x1 == y1) && true))))) := by kernel_rfl
theorem bd23_  : aBuild Try.prog 23 [] = okP (pureE (.cons (.int .i64 0) (.cons (.int .i64 0) .nl))) := by kernel_rfl
theorem neq4 (x0 : Bool) (y0 : Bool) : aBin Try.prog .neq 4 (.bool x0) (.bool y0) = okP (pureE (.bool (!(x0 == y0)))) := by kernel_rfl
theorem bd39_0 (x00 : Int) : aBuild Try.prog 39 [(0, (.int .u8 x00))] = okP (pureE (.cons (.int .u8 x00) (.cons (.int .i64 0) .nl))) := by kernel_rfl
theorem bd39_0_1 (x00 : Int) (x10 : Int) : aBuild Try.prog 39 [(0, (.int .u8 x00)), (1, (.int .i64 x10))] = okP (pureE (.cons (.int .u8 x00) (.cons (.int .i64 x10) .nl))) := by kernel_rfl
theorem bd39_  : aBuild Try.prog 39 [] = okP (pureE (.cons (.int .u8 0) (.cons (.int .i64 0) .nl))) := by kernel_rfl
theorem bd23_0_1 (x00 : Int) (x10 : Int) : aBuild Try.prog 23 [(0, (.int .i64 x00)), (1, (.int .i64 x10))] = okP (pureE (.cons (.int .i64 x00) (.cons (.int .i64 x10) .nl))) := by kernel_rfl
theorem bd23_0 (x00 : Int) : aBuild Try.prog 23 [(0, (.int .i64 x00))] = okP (pureE (.cons (.int .i64 x00) (.cons (.int .i64 0) .nl))) := by kernel_rfl
end Go.Ab
