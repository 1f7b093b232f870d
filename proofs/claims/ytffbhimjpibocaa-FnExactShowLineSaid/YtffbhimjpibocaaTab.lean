/- PRINTED by seatgen.py: what the tables of the program say. -/
import Derived.Test.YtffbhimjpibocaaEngE
import Derived.Test.YtffbhimjpibocaaProg
set_option linter.unusedVariables false
set_option linter.unusedSimpArgs false
set_option linter.unusedSectionVars false
namespace Go.Eng.T
open Go.Proofs
theorem sz_24 : szP Try.prog 24 = some (true, 5) := by kernel_rfl
theorem zr_29 : zeroP Try.prog 29 = some [.sl ⟨.nil, 0, 0, 0⟩ 0 0, .str .empty, .str .empty, .bool false, .bool false] := by kernel_rfl
theorem sz_29 : szP Try.prog 29 = some (true, 5) := by kernel_rfl
theorem bt_4 : boolT Try.prog 4 = true := by kernel_rfl
theorem fl_24_0 : fldP Try.prog 24 0 = some (0, false, 1) := by kernel_rfl
theorem sz_22 : szP Try.prog 22 = some (false, 1) := by kernel_rfl
theorem fl_24_1 : fldP Try.prog 24 1 = some (1, false, 1) := by kernel_rfl
theorem sz_9 : szP Try.prog 9 = some (false, 1) := by kernel_rfl
theorem st_9 : strD Try.prog 9 = true := by kernel_rfl
theorem fl_24_2 : fldP Try.prog 24 2 = some (2, false, 1) := by kernel_rfl
theorem fl_29_0 : fldP Try.prog 29 0 = some (0, false, 1) := by kernel_rfl
theorem sz_27 : szP Try.prog 27 = some (false, 1) := by kernel_rfl
theorem sd_27 : slD Try.prog 27 = true := by kernel_rfl
theorem fl_29_1 : fldP Try.prog 29 1 = some (1, false, 1) := by kernel_rfl
theorem fl_29_2 : fldP Try.prog 29 2 = some (2, false, 1) := by kernel_rfl
theorem fl_29_3 : fldP Try.prog 29 3 = some (3, false, 1) := by kernel_rfl
theorem sz_4 : szP Try.prog 4 = some (false, 1) := by kernel_rfl
theorem el_27 : elP Try.prog 27 = some (39, 1, 24) := by kernel_rfl
theorem fl_39_0 : fldP Try.prog 39 0 = some (0, false, 1) := by kernel_rfl
theorem sz_37 : szP Try.prog 37 = some (false, 1) := by kernel_rfl
theorem sd_37 : slD Try.prog 37 = true := by kernel_rfl
theorem el_37 : elP Try.prog 37 = some (9, 1, 16) := by kernel_rfl
theorem fl_24_3 : fldP Try.prog 24 3 = some (3, false, 1) := by kernel_rfl
theorem fl_24_4 : fldP Try.prog 24 4 = some (4, false, 1) := by kernel_rfl
theorem fl_29_4 : fldP Try.prog 29 4 = some (4, false, 1) := by kernel_rfl
theorem zr_9 : zeroP Try.prog 9 = some [.str .empty] := by kernel_rfl
theorem sz_39 : szP Try.prog 39 = some (true, 1) := by kernel_rfl
theorem zr_39 : zeroP Try.prog 39 = some [.sl ⟨.nil, 0, 0, 0⟩ 0 0] := by kernel_rfl
theorem sd_22 : slD Try.prog 22 = true := by kernel_rfl
theorem el_22 : elP Try.prog 22 = some (48, 1, 24) := by kernel_rfl
theorem sz_48 : szP Try.prog 48 = some (true, 1) := by kernel_rfl
theorem el_53 : elP Try.prog 53 = some (5, 1, 1) := by kernel_rfl
theorem zr_5 : zeroP Try.prog 5 = some [.int .u8 0] := by kernel_rfl
theorem cv_53_9 : cvP Try.prog 53 9 = some .b2s := by kernel_rfl
theorem zr_58 : zeroP Try.prog 58 = some [.raw .nilPtr, .sl ⟨.nil, 0, 0, 0⟩ 0 0] := by kernel_rfl
theorem fl_48_0 : fldP Try.prog 48 0 = some (0, false, 1) := by kernel_rfl
theorem fl_58_1 : fldP Try.prog 58 1 = some (1, false, 1) := by kernel_rfl
theorem sz_53 : szP Try.prog 53 = some (false, 1) := by kernel_rfl
theorem sd_53 : slD Try.prog 53 = true := by kernel_rfl
theorem cv_5_21 : cvP Try.prog 5 21 = some (.int .i32) := by kernel_rfl
theorem zr_73 : zeroP Try.prog 73 = some [.bool false, .bool false, .bool false, .bool false, .bool false, .bool false, .bool false, .bool false, .bool false, .bool false, .bool false, .bool false, .bool false, .bool false, .bool false, .bool false, .bool false, .bool false, .bool false, .bool false, .bool false, .bool false, .bool false, .bool false, .bool false, .bool false, .bool false, .bool false, .bool false, .bool false, .bool false, .bool false, .bool false, .bool false, .bool false, .bool false, .bool false, .bool false, .bool false, .bool false, .bool false, .bool false, .bool false, .bool false, .bool false, .bool false, .bool false, .bool false, .bool false, .bool false, .bool false, .bool false, .bool false, .bool false, .bool false, .bool false, .bool false, .bool false, .bool false, .bool false, .bool false, .bool false, .bool false, .bool false, .bool false, .bool false, .bool false, .bool false, .bool false, .bool false, .bool false, .bool false, .bool false, .bool false, .bool false, .bool false, .bool false, .bool false, .bool false, .bool false, .bool false, .bool false, .bool false, .bool false, .bool false, .bool false, .bool false, .bool false, .bool false, .bool false, .bool false, .bool false, .bool false, .bool false, .bool false, .bool false, .bool false, .bool false, .bool false, .bool false, .bool false, .bool false, .bool false, .bool false, .bool false, .bool false, .bool false, .bool false, .bool false, .bool false, .bool false, .bool false, .bool false, .bool false, .bool false, .bool false, .bool false, .bool false, .bool false, .bool false, .bool false, .bool false, .bool false, .bool false, .bool false, .bool false, .bool false, .bool false, .bool false, .bool false, .bool false, .bool false, .bool false, .bool false, .bool false, .bool false, .bool false, .bool false, .bool false, .bool false, .bool false, .bool false, .bool false, .bool false, .bool false, .bool false, .bool false, .bool false, .bool false, .bool false, .bool false, .bool false, .bool false, .bool false, .bool false, .bool false, .bool false, .bool false, .bool false, .bool false, .bool false, .bool false, .bool false, .bool false, .bool false, .bool false, .bool false, .bool false, .bool false, .bool false, .bool false, .bool false, .bool false, .bool false, .bool false, .bool false, .bool false, .bool false, .bool false, .bool false, .bool false, .bool false, .bool false, .bool false, .bool false, .bool false, .bool false, .bool false, .bool false, .bool false, .bool false, .bool false, .bool false, .bool false, .bool false, .bool false, .bool false, .bool false, .bool false, .bool false, .bool false, .bool false, .bool false, .bool false, .bool false, .bool false, .bool false, .bool false, .bool false, .bool false, .bool false, .bool false, .bool false, .bool false, .bool false, .bool false, .bool false, .bool false, .bool false, .bool false, .bool false, .bool false, .bool false, .bool false, .bool false, .bool false, .bool false, .bool false, .bool false, .bool false, .bool false, .bool false, .bool false, .bool false, .bool false, .bool false, .bool false, .bool false, .bool false, .bool false, .bool false, .bool false, .bool false, .bool false, .bool false, .bool false, .bool false, .bool false, .bool false, .bool false, .bool false, .bool false, .bool false, .bool false, .bool false, .bool false] := by kernel_rfl
theorem sz_73 : szP Try.prog 73 = some (true, 256) := by kernel_rfl
theorem fl_58_0 : fldP Try.prog 58 0 = some (0, false, 1) := by kernel_rfl
theorem sz_56 : szP Try.prog 56 = some (false, 1) := by kernel_rfl
theorem cv_56_76 : cvP Try.prog 56 76 = none := by kernel_rfl
theorem cv_76_56 : cvP Try.prog 76 56 = none := by kernel_rfl
theorem cv_21_5 : cvP Try.prog 21 5 = some (.int .u8) := by kernel_rfl
theorem cv_21_9 : cvP Try.prog 21 9 = none := by kernel_rfl
theorem el_73 : elP Try.prog 73 = none := by kernel_rfl
theorem mixed : Try.prog.follows .mixedOrders = true := by kernel_rfl
theorem hf_2 : Try.prog.funcs[2]? = some Try.f2 := rfl
theorem fp_2 : fnP Try.prog 2 = true := by kernel_rfl
theorem hf_3 : Try.prog.funcs[3]? = some Try.f3 := rfl
theorem fp_3 : fnP Try.prog 3 = true := by kernel_rfl
theorem hf_4 : Try.prog.funcs[4]? = some Try.f4 := rfl
theorem fp_4 : fnP Try.prog 4 = true := by kernel_rfl
theorem hf_5 : Try.prog.funcs[5]? = some Try.f5 := rfl
theorem fp_5 : fnP Try.prog 5 = true := by kernel_rfl
theorem hf_6 : Try.prog.funcs[6]? = some Try.f6 := rfl
theorem fp_6 : fnP Try.prog 6 = true := by kernel_rfl
theorem hf_7 : Try.prog.funcs[7]? = some Try.f7 := rfl
theorem fp_7 : fnP Try.prog 7 = true := by kernel_rfl
theorem hf_8 : Try.prog.funcs[8]? = some Try.f8 := rfl
theorem fp_8 : fnP Try.prog 8 = true := by kernel_rfl
theorem hf_9 : Try.prog.funcs[9]? = some Try.f9 := rfl
theorem fp_9 : fnP Try.prog 9 = true := by kernel_rfl
theorem hf_10 : Try.prog.funcs[10]? = some Try.f10 := rfl
theorem fp_10 : fnP Try.prog 10 = true := by kernel_rfl
theorem hf_11 : Try.prog.funcs[11]? = some Try.f11 := rfl
theorem fp_11 : fnP Try.prog 11 = true := by kernel_rfl
theorem hf_12 : Try.prog.funcs[12]? = some Try.f12 := rfl
theorem fp_12 : fnP Try.prog 12 = true := by kernel_rfl
theorem hf_13 : Try.prog.funcs[13]? = some Try.f13 := rfl
theorem fp_13 : fnP Try.prog 13 = true := by kernel_rfl
theorem hf_14 : Try.prog.funcs[14]? = some Try.f14 := rfl
theorem fp_14 : fnP Try.prog 14 = true := by kernel_rfl
theorem hf_15 : Try.prog.funcs[15]? = some Try.f15 := rfl
theorem fp_15 : fnP Try.prog 15 = true := by kernel_rfl
theorem hf_16 : Try.prog.funcs[16]? = some Try.f16 := rfl
theorem fp_16 : fnP Try.prog 16 = true := by kernel_rfl
theorem hf_17 : Try.prog.funcs[17]? = some Try.f17 := rfl
theorem fp_17 : fnP Try.prog 17 = true := by kernel_rfl
theorem hf_18 : Try.prog.funcs[18]? = some Try.f18 := rfl
theorem fp_18 : fnP Try.prog 18 = true := by kernel_rfl
theorem hf_19 : Try.prog.funcs[19]? = some Try.f19 := rfl
theorem fp_19 : fnP Try.prog 19 = true := by kernel_rfl
theorem hf_20 : Try.prog.funcs[20]? = some Try.f20 := rfl
theorem fp_20 : fnP Try.prog 20 = true := by kernel_rfl
theorem hf_21 : Try.prog.funcs[21]? = some Try.f21 := rfl
theorem fp_21 : fnP Try.prog 21 = true := by kernel_rfl
theorem hf_22 : Try.prog.funcs[22]? = some Try.f22 := rfl
theorem fp_22 : fnP Try.prog 22 = true := by kernel_rfl
theorem hf_23 : Try.prog.funcs[23]? = some Try.f23 := rfl
theorem fp_23 : fnP Try.prog 23 = true := by kernel_rfl
theorem hf_24 : Try.prog.funcs[24]? = some Try.f24 := rfl
theorem fp_24 : fnP Try.prog 24 = true := by kernel_rfl
theorem hf_25 : Try.prog.funcs[25]? = some Try.f25 := rfl
theorem fp_25 : fnP Try.prog 25 = true := by kernel_rfl
theorem hf_26 : Try.prog.funcs[26]? = some Try.f26 := rfl
theorem fp_26 : fnP Try.prog 26 = true := by kernel_rfl
theorem hf_27 : Try.prog.funcs[27]? = some Try.f27 := rfl
theorem fp_27 : fnP Try.prog 27 = true := by kernel_rfl
theorem hf_28 : Try.prog.funcs[28]? = some Try.f28 := rfl
theorem fp_28 : fnP Try.prog 28 = true := by kernel_rfl
theorem hf_29 : Try.prog.funcs[29]? = some Try.f29 := rfl
theorem fp_29 : fnP Try.prog 29 = true := by kernel_rfl
theorem hf_30 : Try.prog.funcs[30]? = some Try.f30 := rfl
theorem fp_30 : fnP Try.prog 30 = true := by kernel_rfl
theorem hf_31 : Try.prog.funcs[31]? = some Try.f31 := rfl
theorem fp_31 : fnP Try.prog 31 = true := by kernel_rfl
theorem hf_32 : Try.prog.funcs[32]? = some Try.f32 := rfl
theorem fp_32 : fnP Try.prog 32 = true := by kernel_rfl
theorem hf_33 : Try.prog.funcs[33]? = some Try.f33 := rfl
theorem fp_33 : fnP Try.prog 33 = true := by kernel_rfl
theorem hf_34 : Try.prog.funcs[34]? = some Try.f34 := rfl
theorem fp_34 : fnP Try.prog 34 = true := by kernel_rfl
theorem hf_35 : Try.prog.funcs[35]? = some Try.f35 := rfl
theorem fp_35 : fnP Try.prog 35 = true := by kernel_rfl
theorem hf_36 : Try.prog.funcs[36]? = some Try.f36 := rfl
theorem fp_36 : fnP Try.prog 36 = true := by kernel_rfl
theorem hf_37 : Try.prog.funcs[37]? = some Try.f37 := rfl
theorem fp_37 : fnP Try.prog 37 = true := by kernel_rfl
theorem hf_38 : Try.prog.funcs[38]? = some Try.f38 := rfl
theorem fp_38 : fnP Try.prog 38 = true := by kernel_rfl
theorem hf_39 : Try.prog.funcs[39]? = some Try.f39 := rfl
theorem fp_39 : fnP Try.prog 39 = true := by kernel_rfl
theorem hf_40 : Try.prog.funcs[40]? = some Try.f40 := rfl
theorem fp_40 : fnP Try.prog 40 = true := by kernel_rfl
theorem hf_41 : Try.prog.funcs[41]? = some Try.f41 := rfl
theorem fp_41 : fnP Try.prog 41 = true := by kernel_rfl
theorem hf_42 : Try.prog.funcs[42]? = some Try.f42 := rfl
theorem fp_42 : fnP Try.prog 42 = true := by kernel_rfl
theorem hf_43 : Try.prog.funcs[43]? = some Try.f43 := rfl
theorem fp_43 : fnP Try.prog 43 = true := by kernel_rfl
theorem hf_44 : Try.prog.funcs[44]? = some Try.f44 := rfl
theorem fp_44 : fnP Try.prog 44 = true := by kernel_rfl
theorem hf_45 : Try.prog.funcs[45]? = some Try.f45 := rfl
theorem fp_45 : fnP Try.prog 45 = true := by kernel_rfl
theorem hf_48 : Try.prog.funcs[48]? = some Try.f48 := rfl
theorem fp_48 : fnP Try.prog 48 = true := by kernel_rfl
theorem hf_49 : Try.prog.funcs[49]? = some Try.f49 := rfl
theorem fp_49 : fnP Try.prog 49 = true := by kernel_rfl
theorem hf_50 : Try.prog.funcs[50]? = some Try.f50 := rfl
theorem fp_50 : fnP Try.prog 50 = true := by kernel_rfl
theorem hf_52 : Try.prog.funcs[52]? = some Try.f52 := rfl
theorem fp_52 : fnP Try.prog 52 = true := by kernel_rfl
end Go.Eng.T
