/- PRINTED by seatgen.py: what the tables of the program say. -/
import Derived.Test.YtjdppjomhkbljaaEngE
import Derived.Test.YtjdppjomhkbljaaProg
set_option linter.unusedVariables false
set_option linter.unusedSimpArgs false
set_option linter.unusedSectionVars false
namespace Go.Eng.T
open Go.Proofs
theorem zr_25 : zeroP Try.prog 25 = some [.sl ⟨.nil, 0, 0, 0⟩ 0 0, .sl ⟨.nil, 0, 0, 0⟩ 0 0, .sl ⟨.nil, 0, 0, 0⟩ 0 0] := by kernel_rfl
theorem sz_25 : szP Try.prog 25 = some (true, 3) := by kernel_rfl
theorem sz_30 : szP Try.prog 30 = some (true, 3) := by kernel_rfl
theorem bt_4 : boolT Try.prog 4 = true := by kernel_rfl
theorem el_22 : elP Try.prog 22 = some (23, 1, 24) := by kernel_rfl
theorem zr_23 : zeroP Try.prog 23 = some [.sl ⟨.nil, 0, 0, 0⟩ 0 0] := by kernel_rfl
theorem el_23 : elP Try.prog 23 = some (3, 1, 8) := by kernel_rfl
theorem zr_3 : zeroP Try.prog 3 = some [.int .i64 0] := by kernel_rfl
theorem sz_23 : szP Try.prog 23 = some (false, 1) := by kernel_rfl
theorem id_3 : intD Try.prog 3 = true := by kernel_rfl
theorem sz_3 : szP Try.prog 3 = some (false, 1) := by kernel_rfl
theorem sd_23 : slD Try.prog 23 = true := by kernel_rfl
theorem fl_25_1 : fldP Try.prog 25 1 = some (1, false, 1) := by kernel_rfl
theorem fs_25 : fldsP Try.prog 25 = some [(0, 1), (1, 1), (2, 1)] := by kernel_rfl
theorem fl_25_0 : fldP Try.prog 25 0 = some (0, false, 1) := by kernel_rfl
theorem sz_22 : szP Try.prog 22 = some (false, 1) := by kernel_rfl
theorem fl_25_2 : fldP Try.prog 25 2 = some (2, false, 1) := by kernel_rfl
theorem fl_30_0 : fldP Try.prog 30 0 = some (0, false, 1) := by kernel_rfl
theorem fl_30_1 : fldP Try.prog 30 1 = some (1, false, 1) := by kernel_rfl
theorem fl_30_2 : fldP Try.prog 30 2 = some (2, false, 1) := by kernel_rfl
theorem sd_22 : slD Try.prog 22 = true := by kernel_rfl
theorem sd_45 : slD Try.prog 45 = true := by kernel_rfl
theorem el_45 : elP Try.prog 45 = some (5, 1, 1) := by kernel_rfl
theorem sz_5 : szP Try.prog 5 = some (false, 1) := by kernel_rfl
theorem cv_5_3 : cvP Try.prog 5 3 = some (.int .i64) := by kernel_rfl
theorem slt_23 : slT Try.prog 23 = true := by kernel_rfl
theorem zr_76 : zeroP Try.prog 76 = some [.sl ⟨.nil, 0, 0, 0⟩ 0 0, .int .i64 0, .int .i64 0] := by kernel_rfl
theorem fs_76 : fldsP Try.prog 76 = some [(0, 1), (1, 1), (2, 1)] := by kernel_rfl
theorem fl_76_2 : fldP Try.prog 76 2 = some (2, false, 1) := by kernel_rfl
theorem fl_76_1 : fldP Try.prog 76 1 = some (1, false, 1) := by kernel_rfl
theorem fl_76_0 : fldP Try.prog 76 0 = some (0, false, 1) := by kernel_rfl
theorem sz_45 : szP Try.prog 45 = some (false, 1) := by kernel_rfl
theorem mixed : Try.prog.follows .mixedOrders = true := by kernel_rfl
theorem hf_2 : Try.prog.funcs[2]? = some Try.f2 := rfl
theorem fp_2 : fnP Try.prog 2 = true := by kernel_rfl
theorem hf_3 : Try.prog.funcs[3]? = some Try.f3 := rfl
theorem fp_3 : fnP Try.prog 3 = true := by kernel_rfl
theorem hf_4 : Try.prog.funcs[4]? = some Try.f4 := rfl
theorem fp_4 : fnP Try.prog 4 = true := by kernel_rfl
theorem hf_5 : Try.prog.funcs[5]? = some Try.f5 := rfl
theorem fp_5 : fnP Try.prog 5 = true := by kernel_rfl
theorem hf_6 : Try.prog.funcs[6]? = some Try.f6 := rfl
theorem fp_6 : fnP Try.prog 6 = true := by kernel_rfl
theorem hf_7 : Try.prog.funcs[7]? = some Try.f7 := rfl
theorem fp_7 : fnP Try.prog 7 = true := by kernel_rfl
theorem hf_8 : Try.prog.funcs[8]? = some Try.f8 := rfl
theorem fp_8 : fnP Try.prog 8 = true := by kernel_rfl
theorem hf_9 : Try.prog.funcs[9]? = some Try.f9 := rfl
theorem fp_9 : fnP Try.prog 9 = true := by kernel_rfl
theorem hf_10 : Try.prog.funcs[10]? = some Try.f10 := rfl
theorem fp_10 : fnP Try.prog 10 = true := by kernel_rfl
theorem hf_11 : Try.prog.funcs[11]? = some Try.f11 := rfl
theorem fp_11 : fnP Try.prog 11 = true := by kernel_rfl
theorem hf_12 : Try.prog.funcs[12]? = some Try.f12 := rfl
theorem fp_12 : fnP Try.prog 12 = true := by kernel_rfl
theorem hf_13 : Try.prog.funcs[13]? = some Try.f13 := rfl
theorem fp_13 : fnP Try.prog 13 = true := by kernel_rfl
theorem hf_14 : Try.prog.funcs[14]? = some Try.f14 := rfl
theorem fp_14 : fnP Try.prog 14 = true := by kernel_rfl
theorem hf_15 : Try.prog.funcs[15]? = some Try.f15 := rfl
theorem fp_15 : fnP Try.prog 15 = true := by kernel_rfl
theorem hf_16 : Try.prog.funcs[16]? = some Try.f16 := rfl
theorem fp_16 : fnP Try.prog 16 = true := by kernel_rfl
theorem hf_17 : Try.prog.funcs[17]? = some Try.f17 := rfl
theorem fp_17 : fnP Try.prog 17 = true := by kernel_rfl
theorem hf_18 : Try.prog.funcs[18]? = some Try.f18 := rfl
theorem fp_18 : fnP Try.prog 18 = true := by kernel_rfl
theorem hf_19 : Try.prog.funcs[19]? = some Try.f19 := rfl
theorem fp_19 : fnP Try.prog 19 = true := by kernel_rfl
theorem hf_20 : Try.prog.funcs[20]? = some Try.f20 := rfl
theorem fp_20 : fnP Try.prog 20 = true := by kernel_rfl
theorem hf_21 : Try.prog.funcs[21]? = some Try.f21 := rfl
theorem fp_21 : fnP Try.prog 21 = true := by kernel_rfl
theorem hf_22 : Try.prog.funcs[22]? = some Try.f22 := rfl
theorem fp_22 : fnP Try.prog 22 = true := by kernel_rfl
theorem hf_23 : Try.prog.funcs[23]? = some Try.f23 := rfl
theorem fp_23 : fnP Try.prog 23 = true := by kernel_rfl
theorem hf_24 : Try.prog.funcs[24]? = some Try.f24 := rfl
theorem fp_24 : fnP Try.prog 24 = true := by kernel_rfl
theorem hf_25 : Try.prog.funcs[25]? = some Try.f25 := rfl
theorem fp_25 : fnP Try.prog 25 = true := by kernel_rfl
theorem hf_26 : Try.prog.funcs[26]? = some Try.f26 := rfl
theorem fp_26 : fnP Try.prog 26 = true := by kernel_rfl
theorem hf_27 : Try.prog.funcs[27]? = some Try.f27 := rfl
theorem fp_27 : fnP Try.prog 27 = true := by kernel_rfl
theorem hf_28 : Try.prog.funcs[28]? = some Try.f28 := rfl
theorem fp_28 : fnP Try.prog 28 = true := by kernel_rfl
theorem hf_29 : Try.prog.funcs[29]? = some Try.f29 := rfl
theorem fp_29 : fnP Try.prog 29 = true := by kernel_rfl
theorem hf_30 : Try.prog.funcs[30]? = some Try.f30 := rfl
theorem fp_30 : fnP Try.prog 30 = true := by kernel_rfl
theorem hf_31 : Try.prog.funcs[31]? = some Try.f31 := rfl
theorem fp_31 : fnP Try.prog 31 = true := by kernel_rfl
theorem hf_32 : Try.prog.funcs[32]? = some Try.f32 := rfl
theorem fp_32 : fnP Try.prog 32 = true := by kernel_rfl
theorem hf_33 : Try.prog.funcs[33]? = some Try.f33 := rfl
theorem fp_33 : fnP Try.prog 33 = true := by kernel_rfl
theorem hf_34 : Try.prog.funcs[34]? = some Try.f34 := rfl
theorem fp_34 : fnP Try.prog 34 = true := by kernel_rfl
theorem hf_35 : Try.prog.funcs[35]? = some Try.f35 := rfl
theorem fp_35 : fnP Try.prog 35 = true := by kernel_rfl
theorem hf_36 : Try.prog.funcs[36]? = some Try.f36 := rfl
theorem fp_36 : fnP Try.prog 36 = true := by kernel_rfl
theorem hf_37 : Try.prog.funcs[37]? = some Try.f37 := rfl
theorem fp_37 : fnP Try.prog 37 = true := by kernel_rfl
theorem hf_38 : Try.prog.funcs[38]? = some Try.f38 := rfl
theorem fp_38 : fnP Try.prog 38 = true := by kernel_rfl
theorem hf_39 : Try.prog.funcs[39]? = some Try.f39 := rfl
theorem fp_39 : fnP Try.prog 39 = true := by kernel_rfl
theorem hf_40 : Try.prog.funcs[40]? = some Try.f40 := rfl
theorem fp_40 : fnP Try.prog 40 = true := by kernel_rfl
theorem hf_41 : Try.prog.funcs[41]? = some Try.f41 := rfl
theorem fp_41 : fnP Try.prog 41 = true := by kernel_rfl
theorem hf_42 : Try.prog.funcs[42]? = some Try.f42 := rfl
theorem fp_42 : fnP Try.prog 42 = true := by kernel_rfl
theorem hf_43 : Try.prog.funcs[43]? = some Try.f43 := rfl
theorem fp_43 : fnP Try.prog 43 = true := by kernel_rfl
theorem hf_44 : Try.prog.funcs[44]? = some Try.f44 := rfl
theorem fp_44 : fnP Try.prog 44 = true := by kernel_rfl
theorem hf_45 : Try.prog.funcs[45]? = some Try.f45 := rfl
theorem fp_45 : fnP Try.prog 45 = true := by kernel_rfl
theorem hf_46 : Try.prog.funcs[46]? = some Try.f46 := rfl
theorem fp_46 : fnP Try.prog 46 = true := by kernel_rfl
theorem hf_47 : Try.prog.funcs[47]? = some Try.f47 := rfl
theorem fp_47 : fnP Try.prog 47 = true := by kernel_rfl
theorem hf_48 : Try.prog.funcs[48]? = some Try.f48 := rfl
theorem fp_48 : fnP Try.prog 48 = true := by kernel_rfl
theorem hf_49 : Try.prog.funcs[49]? = some Try.f49 := rfl
theorem fp_49 : fnP Try.prog 49 = true := by kernel_rfl
theorem hf_50 : Try.prog.funcs[50]? = some Try.f50 := rfl
theorem fp_50 : fnP Try.prog 50 = true := by kernel_rfl
theorem hf_51 : Try.prog.funcs[51]? = some Try.f51 := rfl
theorem fp_51 : fnP Try.prog 51 = true := by kernel_rfl
theorem hf_52 : Try.prog.funcs[52]? = some Try.f52 := rfl
theorem fp_52 : fnP Try.prog 52 = true := by kernel_rfl
theorem hf_53 : Try.prog.funcs[53]? = some Try.f53 := rfl
theorem fp_53 : fnP Try.prog 53 = true := by kernel_rfl
theorem hf_54 : Try.prog.funcs[54]? = some Try.f54 := rfl
theorem fp_54 : fnP Try.prog 54 = true := by kernel_rfl
theorem hf_55 : Try.prog.funcs[55]? = some Try.f55 := rfl
theorem fp_55 : fnP Try.prog 55 = true := by kernel_rfl
theorem hf_56 : Try.prog.funcs[56]? = some Try.f56 := rfl
theorem fp_56 : fnP Try.prog 56 = true := by kernel_rfl
theorem hf_57 : Try.prog.funcs[57]? = some Try.f57 := rfl
theorem fp_57 : fnP Try.prog 57 = true := by kernel_rfl
theorem hf_58 : Try.prog.funcs[58]? = some Try.f58 := rfl
theorem fp_58 : fnP Try.prog 58 = true := by kernel_rfl
theorem hf_59 : Try.prog.funcs[59]? = some Try.f59 := rfl
theorem fp_59 : fnP Try.prog 59 = true := by kernel_rfl
theorem hf_60 : Try.prog.funcs[60]? = some Try.f60 := rfl
theorem fp_60 : fnP Try.prog 60 = true := by kernel_rfl
theorem hf_61 : Try.prog.funcs[61]? = some Try.f61 := rfl
theorem fp_61 : fnP Try.prog 61 = true := by kernel_rfl
theorem hf_62 : Try.prog.funcs[62]? = some Try.f62 := rfl
theorem fp_62 : fnP Try.prog 62 = true := by kernel_rfl
theorem hf_63 : Try.prog.funcs[63]? = some Try.f63 := rfl
theorem fp_63 : fnP Try.prog 63 = true := by kernel_rfl
theorem hf_64 : Try.prog.funcs[64]? = some Try.f64 := rfl
theorem fp_64 : fnP Try.prog 64 = true := by kernel_rfl
theorem hf_65 : Try.prog.funcs[65]? = some Try.f65 := rfl
theorem fp_65 : fnP Try.prog 65 = true := by kernel_rfl
theorem hf_66 : Try.prog.funcs[66]? = some Try.f66 := rfl
theorem fp_66 : fnP Try.prog 66 = true := by kernel_rfl
theorem hf_67 : Try.prog.funcs[67]? = some Try.f67 := rfl
theorem fp_67 : fnP Try.prog 67 = true := by kernel_rfl
theorem hf_68 : Try.prog.funcs[68]? = some Try.f68 := rfl
theorem fp_68 : fnP Try.prog 68 = true := by kernel_rfl
theorem hf_69 : Try.prog.funcs[69]? = some Try.f69 := rfl
theorem fp_69 : fnP Try.prog 69 = true := by kernel_rfl
theorem hf_70 : Try.prog.funcs[70]? = some Try.f70 := rfl
theorem fp_70 : fnP Try.prog 70 = true := by kernel_rfl
theorem hf_71 : Try.prog.funcs[71]? = some Try.f71 := rfl
theorem fp_71 : fnP Try.prog 71 = true := by kernel_rfl
theorem hf_72 : Try.prog.funcs[72]? = some Try.f72 := rfl
theorem fp_72 : fnP Try.prog 72 = true := by kernel_rfl
theorem hf_73 : Try.prog.funcs[73]? = some Try.f73 := rfl
theorem fp_73 : fnP Try.prog 73 = true := by kernel_rfl
theorem hf_74 : Try.prog.funcs[74]? = some Try.f74 := rfl
theorem fp_74 : fnP Try.prog 74 = true := by kernel_rfl
theorem hf_75 : Try.prog.funcs[75]? = some Try.f75 := rfl
theorem fp_75 : fnP Try.prog 75 = true := by kernel_rfl
theorem hf_76 : Try.prog.funcs[76]? = some Try.f76 := rfl
theorem fp_76 : fnP Try.prog 76 = true := by kernel_rfl
theorem hf_77 : Try.prog.funcs[77]? = some Try.f77 := rfl
theorem fp_77 : fnP Try.prog 77 = true := by kernel_rfl
theorem hf_78 : Try.prog.funcs[78]? = some Try.f78 := rfl
theorem fp_78 : fnP Try.prog 78 = true := by kernel_rfl
theorem hf_79 : Try.prog.funcs[79]? = some Try.f79 := rfl
theorem fp_79 : fnP Try.prog 79 = true := by kernel_rfl
end Go.Eng.T
