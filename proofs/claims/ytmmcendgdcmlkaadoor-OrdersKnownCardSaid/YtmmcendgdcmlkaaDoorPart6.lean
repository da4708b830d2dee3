/-
  Facts of the types, printed by a program of this claim's own.
  Lemmas.
-/
import Derived.Test.YtmmcendgdcmlkaaDoorProg
import Derived.KernelRfl
import Derived.Test.YtmmcendgdcmlkaaDoorPart5
set_option linter.unusedSimpArgs false
set_option linter.unusedVariables false
set_option linter.unnecessarySimpa false
set_option linter.deprecated false
namespace Go.Avl
open Go Go.Proofs.Tryd
@[go_sem] theorem ty_cellsOf_100 : Program.cellsOf prog 100 = 1 := by kernel_rfl
@[go_sem] theorem ty_cellsOf_115 : Program.cellsOf prog 115 = 1 := by kernel_rfl
@[go_sem] theorem ty_cellsOf_117 : Program.cellsOf prog 117 = 1 := by kernel_rfl
@[go_sem] theorem ty_cellsOf_138 : Program.cellsOf prog 138 = 4 := by kernel_rfl
@[go_sem] theorem ty_cellsOf_148 : Program.cellsOf prog 148 = 1 := by kernel_rfl
@[go_sem] theorem ty_cellsOf_151 : Program.cellsOf prog 151 = 1 := by kernel_rfl
@[go_sem] theorem ty_cellsOf_183 : Program.cellsOf prog 183 = 2 := by kernel_rfl
@[go_sem] theorem ty_cellsOf_196 : Program.cellsOf prog 196 = 4 := by kernel_rfl
@[go_sem] theorem ty_cellsOf_22 : Program.cellsOf prog 22 = 1 := by kernel_rfl
@[go_sem] theorem ty_cellsOf_25 : Program.cellsOf prog 25 = 1 := by kernel_rfl
@[go_sem] theorem ty_cellsOf_27 : Program.cellsOf prog 27 = 1 := by kernel_rfl
@[go_sem] theorem ty_cellsOf_29 : Program.cellsOf prog 29 = 3 := by kernel_rfl
@[go_sem] theorem ty_cellsOf_3 : Program.cellsOf prog 3 = 1 := by kernel_rfl
@[go_sem] theorem ty_cellsOf_31 : Program.cellsOf prog 31 = 1 := by kernel_rfl
@[go_sem] theorem ty_cellsOf_33 : Program.cellsOf prog 33 = 1 := by kernel_rfl
@[go_sem] theorem ty_cellsOf_35 : Program.cellsOf prog 35 = 1 := by kernel_rfl
@[go_sem] theorem ty_cellsOf_4 : Program.cellsOf prog 4 = 1 := by kernel_rfl
@[go_sem] theorem ty_cellsOf_41 : Program.cellsOf prog 41 = 6 := by kernel_rfl
@[go_sem] theorem ty_cellsOf_43 : Program.cellsOf prog 43 = 12 := by kernel_rfl
@[go_sem] theorem ty_cellsOf_5 : Program.cellsOf prog 5 = 1 := by kernel_rfl
@[go_sem] theorem ty_cellsOf_50 : Program.cellsOf prog 50 = 1 := by kernel_rfl
@[go_sem] theorem ty_cellsOf_52 : Program.cellsOf prog 52 = 1 := by kernel_rfl
@[go_sem] theorem ty_cellsOf_61 : Program.cellsOf prog 61 = 1 := by kernel_rfl
@[go_sem] theorem ty_cellsOf_64 : Program.cellsOf prog 64 = 1 := by kernel_rfl
@[go_sem] theorem ty_cellsOf_83 : Program.cellsOf prog 83 = 1 := by kernel_rfl
@[go_sem] theorem ty_cellsOf_85 : Program.cellsOf prog 85 = 2 := by kernel_rfl
@[go_sem] theorem ty_eqKinds_181 : eqKinds prog 181 = none := by kernel_rfl
@[go_sem] theorem ty_eqKinds_183 : eqKinds prog 183 = some [Kd.int IntKind.i64, Kd.int IntKind.i64] := by kernel_rfl
@[go_sem] theorem ty_eqKinds_3 : eqKinds prog 3 = none := by kernel_rfl
@[go_sem] theorem ty_eqKinds_35 : eqKinds prog 35 = none := by kernel_rfl
@[go_sem] theorem ty_eqKinds_4 : eqKinds prog 4 = none := by kernel_rfl
@[go_sem] theorem ty_eqKinds_43 : eqKinds prog 43 = some [Kd.int IntKind.i64, Kd.int IntKind.i64, Kd.int IntKind.i64, Kd.int IntKind.i64, Kd.int IntKind.i64, Kd.int IntKind.i64, Kd.int IntKind.i64, Kd.int IntKind.i64, Kd.int IntKind.i64, Kd.int IntKind.i64, Kd.int IntKind.i64, Kd.int IntKind.i64] := by kernel_rfl
@[go_sem] theorem ty_eqKinds_5 : eqKinds prog 5 = none := by kernel_rfl
@[go_sem] theorem ty_eqKinds_83 : eqKinds prog 83 = none := by kernel_rfl
@[go_sem] theorem ty_eqKinds_85 : eqKinds prog 85 = some [Kd.int IntKind.i64, Kd.int IntKind.i64] := by kernel_rfl
@[go_sem] theorem ty_kindsOf_183 : kindsOf prog 8 183 = some [Kd.int IntKind.i64, Kd.int IntKind.i64] := by kernel_rfl
@[go_sem] theorem ty_nilTy_181 : nilTy prog 181 = 0 := by kernel_rfl
@[go_sem] theorem ty_nilTy_183 : nilTy prog 183 = 0 := by kernel_rfl
@[go_sem] theorem ty_nilTy_3 : nilTy prog 3 = 0 := by kernel_rfl
@[go_sem] theorem ty_nilTy_35 : nilTy prog 35 = 0 := by kernel_rfl
@[go_sem] theorem ty_nilTy_4 : nilTy prog 4 = 0 := by kernel_rfl
@[go_sem] theorem ty_nilTy_43 : nilTy prog 43 = 0 := by kernel_rfl
@[go_sem] theorem ty_nilTy_5 : nilTy prog 5 = 0 := by kernel_rfl
@[go_sem] theorem ty_nilTy_83 : nilTy prog 83 = 1 := by kernel_rfl
@[go_sem] theorem ty_nilTy_85 : nilTy prog 85 = 0 := by kernel_rfl
@[go_sem] theorem ty_placeOf_138_0 : placeOf prog 138 0 = some (0, 1) := by kernel_rfl
@[go_sem] theorem ty_placeOf_138_1 : placeOf prog 138 1 = some (1, 1) := by kernel_rfl
@[go_sem] theorem ty_placeOf_138_2 : placeOf prog 138 2 = some (2, 1) := by kernel_rfl
@[go_sem] theorem ty_placeOf_138_3 : placeOf prog 138 3 = some (3, 1) := by kernel_rfl
@[go_sem] theorem ty_placeOf_139_0 : placeOf prog 139 0 = some (0, 4) := by kernel_rfl
@[go_sem] theorem ty_placeOf_139_1 : placeOf prog 139 1 = some (4, 4) := by kernel_rfl
@[go_sem] theorem ty_placeOf_139_2 : placeOf prog 139 2 = some (8, 4) := by kernel_rfl
@[go_sem] theorem ty_placeOf_139_3 : placeOf prog 139 3 = some (12, 4) := by kernel_rfl
@[go_sem] theorem ty_placeOf_139_4 : placeOf prog 139 4 = some (16, 4) := by kernel_rfl
@[go_sem] theorem ty_placeOf_183_0 : placeOf prog 183 0 = some (0, 1) := by kernel_rfl
@[go_sem] theorem ty_placeOf_183_1 : placeOf prog 183 1 = some (1, 1) := by kernel_rfl
@[go_sem] theorem ty_placeOf_188_0 : placeOf prog 188 0 = some (0, 1) := by kernel_rfl
@[go_sem] theorem ty_placeOf_188_1 : placeOf prog 188 1 = some (1, 1) := by kernel_rfl
@[go_sem] theorem ty_placeOf_188_2 : placeOf prog 188 2 = some (2, 2) := by kernel_rfl
@[go_sem] theorem ty_placeOf_188_3 : placeOf prog 188 3 = some (4, 2) := by kernel_rfl
@[go_sem] theorem ty_placeOf_196_0 : placeOf prog 196 0 = some (0, 2) := by kernel_rfl
@[go_sem] theorem ty_placeOf_196_1 : placeOf prog 196 1 = some (2, 1) := by kernel_rfl
@[go_sem] theorem ty_placeOf_196_2 : placeOf prog 196 2 = some (3, 1) := by kernel_rfl
@[go_sem] theorem ty_placeOf_29_0 : placeOf prog 29 0 = some (0, 1) := by kernel_rfl
@[go_sem] theorem ty_placeOf_29_1 : placeOf prog 29 1 = some (1, 1) := by kernel_rfl
@[go_sem] theorem ty_placeOf_29_2 : placeOf prog 29 2 = some (2, 1) := by kernel_rfl
@[go_sem] theorem ty_placeOf_41_0 : placeOf prog 41 0 = some (0, 1) := by kernel_rfl
@[go_sem] theorem ty_placeOf_41_1 : placeOf prog 41 1 = some (1, 1) := by kernel_rfl
@[go_sem] theorem ty_placeOf_41_2 : placeOf prog 41 2 = some (2, 1) := by kernel_rfl
@[go_sem] theorem ty_placeOf_41_3 : placeOf prog 41 3 = some (3, 1) := by kernel_rfl
@[go_sem] theorem ty_placeOf_41_4 : placeOf prog 41 4 = some (4, 1) := by kernel_rfl
@[go_sem] theorem ty_placeOf_41_5 : placeOf prog 41 5 = some (5, 1) := by kernel_rfl
@[go_sem] theorem ty_placeOf_43_0 : placeOf prog 43 0 = some (0, 6) := by kernel_rfl
@[go_sem] theorem ty_placeOf_43_1 : placeOf prog 43 1 = some (6, 6) := by kernel_rfl
@[go_sem] theorem ty_placeOf_85_0 : placeOf prog 85 0 = some (0, 1) := by kernel_rfl
@[go_sem] theorem ty_placeOf_85_1 : placeOf prog 85 1 = some (1, 1) := by kernel_rfl
@[go_sem] theorem ty_placeOf_98_0 : placeOf prog 98 0 = some (0, 1) := by kernel_rfl
@[go_sem] theorem ty_tarr_100 : tarr prog 100 = none := by kernel_rfl
@[go_sem] theorem ty_tarr_115 : tarr prog 115 = none := by kernel_rfl
@[go_sem] theorem ty_tarr_139 : tarr prog 139 = some (5, 138) := by kernel_rfl
@[go_sem] theorem ty_tarr_148 : tarr prog 148 = none := by kernel_rfl
@[go_sem] theorem ty_tarr_151 : tarr prog 151 = none := by kernel_rfl
@[go_sem] theorem ty_tarr_167 : tarr prog 167 = none := by kernel_rfl
@[go_sem] theorem ty_tarr_183 : tarr prog 183 = some (2, 3) := by kernel_rfl
@[go_sem] theorem ty_tarr_189 : tarr prog 189 = none := by kernel_rfl
@[go_sem] theorem ty_tarr_192 : tarr prog 192 = none := by kernel_rfl
@[go_sem] theorem ty_tarr_22 : tarr prog 22 = none := by kernel_rfl
@[go_sem] theorem ty_tarr_26 : tarr prog 26 = some (2, 25) := by kernel_rfl
@[go_sem] theorem ty_tarr_27 : tarr prog 27 = none := by kernel_rfl
@[go_sem] theorem ty_tarr_31 : tarr prog 31 = none := by kernel_rfl
@[go_sem] theorem ty_tarr_33 : tarr prog 33 = none := by kernel_rfl
@[go_sem] theorem ty_tarr_50 : tarr prog 50 = none := by kernel_rfl
@[go_sem] theorem ty_tarr_52 : tarr prog 52 = none := by kernel_rfl
@[go_sem] theorem ty_tarr_61 : tarr prog 61 = none := by kernel_rfl
@[go_sem] theorem ty_tarr_64 : tarr prog 64 = none := by kernel_rfl
@[go_sem] theorem ty_tarr_83 : tarr prog 83 = none := by kernel_rfl
@[go_sem] theorem ty_tbool_181 : tbool prog 181 = false := by kernel_rfl
@[go_sem] theorem ty_tbool_183 : tbool prog 183 = false := by kernel_rfl
@[go_sem] theorem ty_tbool_3 : tbool prog 3 = false := by kernel_rfl
@[go_sem] theorem ty_tbool_35 : tbool prog 35 = false := by kernel_rfl
@[go_sem] theorem ty_tbool_4 : tbool prog 4 = true := by kernel_rfl
@[go_sem] theorem ty_tbool_43 : tbool prog 43 = false := by kernel_rfl
@[go_sem] theorem ty_tbool_5 : tbool prog 5 = false := by kernel_rfl
@[go_sem] theorem ty_tbool_83 : tbool prog 83 = false := by kernel_rfl
@[go_sem] theorem ty_tbool_85 : tbool prog 85 = false := by kernel_rfl
@[go_sem] theorem ty_tbuild_138 : tbuild prog 138 = true := by kernel_rfl
@[go_sem] theorem ty_tbuild_139 : tbuild prog 139 = true := by kernel_rfl
@[go_sem] theorem ty_tbuild_183 : tbuild prog 183 = true := by kernel_rfl
@[go_sem] theorem ty_tbuild_188 : tbuild prog 188 = true := by kernel_rfl
@[go_sem] theorem ty_tbuild_196 : tbuild prog 196 = true := by kernel_rfl
@[go_sem] theorem ty_tbuild_29 : tbuild prog 29 = true := by kernel_rfl
@[go_sem] theorem ty_tbuild_41 : tbuild prog 41 = true := by kernel_rfl
@[go_sem] theorem ty_tbuild_43 : tbuild prog 43 = true := by kernel_rfl
@[go_sem] theorem ty_tbuild_85 : tbuild prog 85 = true := by kernel_rfl
@[go_sem] theorem ty_tbuild_98 : tbuild prog 98 = true := by kernel_rfl
@[go_sem] theorem ty_telem_100 : telem prog 100 = some 29 := by kernel_rfl
@[go_sem] theorem ty_telem_106 : telem prog 106 = none := by kernel_rfl
@[go_sem] theorem ty_telem_115 : telem prog 115 = some 117 := by kernel_rfl
@[go_sem] theorem ty_telem_117 : telem prog 117 = none := by kernel_rfl
@[go_sem] theorem ty_telem_126 : telem prog 126 = none := by kernel_rfl
@[go_sem] theorem ty_telem_139 : telem prog 139 = none := by kernel_rfl
@[go_sem] theorem ty_telem_148 : telem prog 148 = some 52 := by kernel_rfl
@[go_sem] theorem ty_telem_151 : telem prog 151 = some 5 := by kernel_rfl
@[go_sem] theorem ty_telem_156 : telem prog 156 = none := by kernel_rfl
@[go_sem] theorem ty_telem_167 : telem prog 167 = some 183 := by kernel_rfl
@[go_sem] theorem ty_telem_183 : telem prog 183 = none := by kernel_rfl
@[go_sem] theorem ty_telem_188 : telem prog 188 = none := by kernel_rfl
@[go_sem] theorem ty_telem_189 : telem prog 189 = some 196 := by kernel_rfl
@[go_sem] theorem ty_telem_192 : telem prog 192 = some 35 := by kernel_rfl
@[go_sem] theorem ty_telem_22 : telem prog 22 = some 25 := by kernel_rfl
@[go_sem] theorem ty_telem_24 : telem prog 24 = none := by kernel_rfl
@[go_sem] theorem ty_telem_26 : telem prog 26 = none := by kernel_rfl
@[go_sem] theorem ty_telem_27 : telem prog 27 = some 83 := by kernel_rfl
@[go_sem] theorem ty_telem_29 : telem prog 29 = none := by kernel_rfl
@[go_sem] theorem ty_telem_3 : telem prog 3 = none := by kernel_rfl
@[go_sem] theorem ty_telem_31 : telem prog 31 = some 3 := by kernel_rfl
@[go_sem] theorem ty_telem_33 : telem prog 33 = some 43 := by kernel_rfl
@[go_sem] theorem ty_telem_41 : telem prog 41 = none := by kernel_rfl
@[go_sem] theorem ty_telem_43 : telem prog 43 = none := by kernel_rfl
@[go_sem] theorem ty_telem_5 : telem prog 5 = none := by kernel_rfl
@[go_sem] theorem ty_telem_50 : telem prog 50 = some 41 := by kernel_rfl
@[go_sem] theorem ty_telem_52 : telem prog 52 = some 4 := by kernel_rfl
@[go_sem] theorem ty_telem_61 : telem prog 61 = some 151 := by kernel_rfl
@[go_sem] theorem ty_telem_63 : telem prog 63 = none := by kernel_rfl
@[go_sem] theorem ty_telem_64 : telem prog 64 = some 31 := by kernel_rfl
@[go_sem] theorem ty_telem_83 : telem prog 83 = some 85 := by kernel_rfl
@[go_sem] theorem ty_telem_85 : telem prog 85 = none := by kernel_rfl
@[go_sem] theorem ty_telem_92 : telem prog 92 = none := by kernel_rfl
@[go_sem] theorem ty_telem_98 : telem prog 98 = none := by kernel_rfl
@[go_sem] theorem ty_tfield_117_0 : tfield prog 117 0 = some (0, 31) := by kernel_rfl
@[go_sem] theorem ty_tfield_138_1 : tfield prog 138 1 = some (1, 4) := by kernel_rfl
@[go_sem] theorem ty_tfield_138_2 : tfield prog 138 2 = some (2, 4) := by kernel_rfl
@[go_sem] theorem ty_tfield_138_3 : tfield prog 138 3 = some (3, 4) := by kernel_rfl
@[go_sem] theorem ty_tfield_188_0 : tfield prog 188 0 = some (0, 3) := by kernel_rfl
@[go_sem] theorem ty_tfield_188_1 : tfield prog 188 1 = some (1, 3) := by kernel_rfl
@[go_sem] theorem ty_tfield_188_2 : tfield prog 188 2 = some (2, 85) := by kernel_rfl
@[go_sem] theorem ty_tfield_188_3 : tfield prog 188 3 = some (4, 85) := by kernel_rfl
@[go_sem] theorem ty_tfield_196_0 : tfield prog 196 0 = some (0, 183) := by kernel_rfl
@[go_sem] theorem ty_tfield_196_1 : tfield prog 196 1 = some (2, 3) := by kernel_rfl
@[go_sem] theorem ty_tfield_196_2 : tfield prog 196 2 = some (3, 3) := by kernel_rfl
@[go_sem] theorem ty_tfield_24_0 : tfield prog 24 0 = some (0, 5) := by kernel_rfl
@[go_sem] theorem ty_tfield_24_1 : tfield prog 24 1 = some (1, 5) := by kernel_rfl
@[go_sem] theorem ty_tfield_24_2 : tfield prog 24 2 = some (2, 5) := by kernel_rfl
@[go_sem] theorem ty_tfield_24_3 : tfield prog 24 3 = some (3, 4) := by kernel_rfl
@[go_sem] theorem ty_tfield_24_4 : tfield prog 24 4 = some (4, 22) := by kernel_rfl
@[go_sem] theorem ty_tfield_29_0 : tfield prog 29 0 = some (0, 3) := by kernel_rfl
@[go_sem] theorem ty_tfield_29_1 : tfield prog 29 1 = some (1, 3) := by kernel_rfl
@[go_sem] theorem ty_tfield_29_2 : tfield prog 29 2 = some (2, 27) := by kernel_rfl
@[go_sem] theorem ty_tfield_41_0 : tfield prog 41 0 = some (0, 3) := by kernel_rfl
@[go_sem] theorem ty_tfield_41_1 : tfield prog 41 1 = some (1, 3) := by kernel_rfl
@[go_sem] theorem ty_tfield_41_2 : tfield prog 41 2 = some (2, 3) := by kernel_rfl
@[go_sem] theorem ty_tfield_41_3 : tfield prog 41 3 = some (3, 3) := by kernel_rfl
@[go_sem] theorem ty_tfield_41_4 : tfield prog 41 4 = some (4, 3) := by kernel_rfl
@[go_sem] theorem ty_tfield_41_5 : tfield prog 41 5 = some (5, 3) := by kernel_rfl
@[go_sem] theorem ty_tfield_43_0 : tfield prog 43 0 = some (0, 41) := by kernel_rfl
@[go_sem] theorem ty_tfield_43_1 : tfield prog 43 1 = some (6, 41) := by kernel_rfl
@[go_sem] theorem ty_tfield_63_0 : tfield prog 63 0 = some (0, 5) := by kernel_rfl
@[go_sem] theorem ty_tfield_63_1 : tfield prog 63 1 = some (1, 61) := by kernel_rfl
@[go_sem] theorem ty_tfield_72_0 : tfield prog 72 0 = some (0, 64) := by kernel_rfl
@[go_sem] theorem ty_tfield_72_1 : tfield prog 72 1 = some (1, 50) := by kernel_rfl
@[go_sem] theorem ty_tfield_72_2 : tfield prog 72 2 = some (2, 31) := by kernel_rfl
@[go_sem] theorem ty_tfield_72_3 : tfield prog 72 3 = some (3, 3) := by kernel_rfl
@[go_sem] theorem ty_tfield_85_0 : tfield prog 85 0 = some (0, 3) := by kernel_rfl
@[go_sem] theorem ty_tfield_85_1 : tfield prog 85 1 = some (1, 3) := by kernel_rfl
@[go_sem] theorem ty_tfield_98_0 : tfield prog 98 0 = some (0, 25) := by kernel_rfl
@[go_sem] theorem ty_tinf_117 : tinf prog 117 = true := by kernel_rfl
@[go_sem] theorem ty_tinf_138 : tinf prog 138 = true := by kernel_rfl
@[go_sem] theorem ty_tinf_151 : tinf prog 151 = true := by kernel_rfl
@[go_sem] theorem ty_tinf_183 : tinf prog 183 = true := by kernel_rfl
@[go_sem] theorem ty_tinf_196 : tinf prog 196 = true := by kernel_rfl
@[go_sem] theorem ty_tinf_25 : tinf prog 25 = true := by kernel_rfl
@[go_sem] theorem ty_tinf_29 : tinf prog 29 = true := by kernel_rfl
@[go_sem] theorem ty_tinf_3 : tinf prog 3 = true := by kernel_rfl
@[go_sem] theorem ty_tinf_31 : tinf prog 31 = true := by kernel_rfl
@[go_sem] theorem ty_tinf_35 : tinf prog 35 = true := by kernel_rfl
@[go_sem] theorem ty_tinf_4 : tinf prog 4 = true := by kernel_rfl
@[go_sem] theorem ty_tinf_41 : tinf prog 41 = true := by kernel_rfl
@[go_sem] theorem ty_tinf_43 : tinf prog 43 = true := by kernel_rfl
@[go_sem] theorem ty_tinf_5 : tinf prog 5 = true := by kernel_rfl
@[go_sem] theorem ty_tinf_52 : tinf prog 52 = true := by kernel_rfl
@[go_sem] theorem ty_tinf_83 : tinf prog 83 = true := by kernel_rfl
@[go_sem] theorem ty_tinf_85 : tinf prog 85 = true := by kernel_rfl
@[go_sem] theorem ty_tinfo_117 : tinfo prog 117 = some { size := 1, agg := true, zero := [Value.slice none 0 0], bytes := 24 } := by kernel_rfl
@[go_sem] theorem ty_tinfo_135 : tinfo prog 135 = some { size := 1, agg := false, zero := [Value.nilFunc], bytes := 8 } := by kernel_rfl
@[go_sem] theorem ty_tinfo_138 : tinfo prog 138 = some { size := 4, agg := true, zero := [Value.string { data := { toList := [] } }, Value.bool false, Value.bool false, Value.bool false], bytes := 24 } := by kernel_rfl
@[go_sem] theorem ty_tinfo_139 : tinfo prog 139 = some { size := 20, agg := true, zero := [Value.string { data := { toList := [] } }, Value.bool false, Value.bool false, Value.bool false, Value.string { data := { toList := [] } }, Value.bool false, Value.bool false, Value.bool false, Value.string { data := { toList := [] } }, Value.bool false, Value.bool false, Value.bool false, Value.string { data := { toList := [] } }, Value.bool false, Value.bool false, Value.bool false, Value.string { data := { toList := [] } }, Value.bool false, Value.bool false, Value.bool false], bytes := 120 } := by kernel_rfl
@[go_sem] theorem ty_tinfo_151 : tinfo prog 151 = some { size := 1, agg := false, zero := [Value.slice none 0 0], bytes := 24 } := by kernel_rfl
@[go_sem] theorem ty_tinfo_167 : tinfo prog 167 = some { size := 1, agg := false, zero := [Value.slice none 0 0], bytes := 24 } := by kernel_rfl
@[go_sem] theorem ty_tinfo_183 : tinfo prog 183 = some { size := 2, agg := true, zero := [Value.int IntKind.i64 0, Value.int IntKind.i64 0], bytes := 16 } := by kernel_rfl
@[go_sem] theorem ty_tinfo_188 : tinfo prog 188 = some { size := 6, agg := true, zero := [Value.int IntKind.i64 0, Value.int IntKind.i64 0, Value.int IntKind.i64 0, Value.int IntKind.i64 0, Value.int IntKind.i64 0, Value.int IntKind.i64 0], bytes := 48 } := by kernel_rfl
@[go_sem] theorem ty_tinfo_196 : tinfo prog 196 = some { size := 4, agg := true, zero := [Value.int IntKind.i64 0, Value.int IntKind.i64 0, Value.int IntKind.i64 0, Value.int IntKind.i64 0], bytes := 32 } := by kernel_rfl
@[go_sem] theorem ty_tinfo_22 : tinfo prog 22 = some { size := 1, agg := false, zero := [Value.slice none 0 0], bytes := 24 } := by kernel_rfl
@[go_sem] theorem ty_tinfo_24 : tinfo prog 24 = some { size := 5, agg := true, zero := [Value.int IntKind.u8 0, Value.int IntKind.u8 0, Value.int IntKind.u8 0, Value.bool false, Value.slice none 0 0], bytes := 32 } := by kernel_rfl
@[go_sem] theorem ty_tinfo_25 : tinfo prog 25 = some { size := 1, agg := false, zero := [Value.int IntKind.u16 0], bytes := 2 } := by kernel_rfl
@[go_sem] theorem ty_tinfo_27 : tinfo prog 27 = some { size := 1, agg := false, zero := [Value.slice none 0 0], bytes := 24 } := by kernel_rfl
@[go_sem] theorem ty_tinfo_29 : tinfo prog 29 = some { size := 3, agg := true, zero := [Value.int IntKind.i64 0, Value.int IntKind.i64 0, Value.slice none 0 0], bytes := 40 } := by kernel_rfl
@[go_sem] theorem ty_tinfo_3 : tinfo prog 3 = some { size := 1, agg := false, zero := [Value.int IntKind.i64 0], bytes := 8 } := by kernel_rfl
@[go_sem] theorem ty_tinfo_31 : tinfo prog 31 = some { size := 1, agg := false, zero := [Value.slice none 0 0], bytes := 24 } := by kernel_rfl
@[go_sem] theorem ty_tinfo_35 : tinfo prog 35 = some { size := 1, agg := false, zero := [Value.int IntKind.i64 0], bytes := 8 } := by kernel_rfl
@[go_sem] theorem ty_tinfo_4 : tinfo prog 4 = some { size := 1, agg := false, zero := [Value.bool false], bytes := 1 } := by kernel_rfl
@[go_sem] theorem ty_tinfo_41 : tinfo prog 41 = some { size := 6, agg := true, zero := [Value.int IntKind.i64 0, Value.int IntKind.i64 0, Value.int IntKind.i64 0, Value.int IntKind.i64 0, Value.int IntKind.i64 0, Value.int IntKind.i64 0], bytes := 48 } := by kernel_rfl
@[go_sem] theorem ty_tinfo_43 : tinfo prog 43 = some { size := 12, agg := true, zero := [Value.int IntKind.i64 0, Value.int IntKind.i64 0, Value.int IntKind.i64 0, Value.int IntKind.i64 0, Value.int IntKind.i64 0, Value.int IntKind.i64 0, Value.int IntKind.i64 0, Value.int IntKind.i64 0, Value.int IntKind.i64 0, Value.int IntKind.i64 0, Value.int IntKind.i64 0, Value.int IntKind.i64 0], bytes := 96 } := by kernel_rfl
@[go_sem] theorem ty_tinfo_5 : tinfo prog 5 = some { size := 1, agg := false, zero := [Value.int IntKind.u8 0], bytes := 1 } := by kernel_rfl
@[go_sem] theorem ty_tinfo_50 : tinfo prog 50 = some { size := 1, agg := false, zero := [Value.slice none 0 0], bytes := 24 } := by kernel_rfl
@[go_sem] theorem ty_tinfo_52 : tinfo prog 52 = some { size := 1, agg := false, zero := [Value.slice none 0 0], bytes := 24 } := by kernel_rfl
@[go_sem] theorem ty_tinfo_61 : tinfo prog 61 = some { size := 1, agg := false, zero := [Value.slice none 0 0], bytes := 24 } := by kernel_rfl
@[go_sem] theorem ty_tinfo_63 : tinfo prog 63 = some { size := 2, agg := true, zero := [Value.int IntKind.u8 0, Value.slice none 0 0], bytes := 32 } := by kernel_rfl
@[go_sem] theorem ty_tinfo_64 : tinfo prog 64 = some { size := 1, agg := false, zero := [Value.slice none 0 0], bytes := 24 } := by kernel_rfl
@[go_sem] theorem ty_tinfo_83 : tinfo prog 83 = some { size := 1, agg := false, zero := [Value.slice none 0 0], bytes := 24 } := by kernel_rfl
@[go_sem] theorem ty_tinfo_85 : tinfo prog 85 = some { size := 2, agg := true, zero := [Value.int IntKind.i64 0, Value.int IntKind.i64 0], bytes := 16 } := by kernel_rfl
@[go_sem] theorem ty_tinfo_98 : tinfo prog 98 = some { size := 1, agg := true, zero := [Value.int IntKind.u16 0], bytes := 2 } := by kernel_rfl
@[go_sem] theorem ty_tint_181 : tint prog 181 = some IntKind.u64 := by kernel_rfl
@[go_sem] theorem ty_tint_3 : tint prog 3 = some IntKind.i64 := by kernel_rfl
@[go_sem] theorem ty_tknown_181 : tknown prog 181 = true := by kernel_rfl
@[go_sem] theorem ty_tknown_25 : tknown prog 25 = true := by kernel_rfl
@[go_sem] theorem ty_tknown_3 : tknown prog 3 = true := by kernel_rfl
@[go_sem] theorem ty_tknown_5 : tknown prog 5 = true := by kernel_rfl
@[go_sem] theorem ty_tmap_100 : tmap prog 100 = none := by kernel_rfl
@[go_sem] theorem ty_tmap_106 : tmap prog 106 = none := by kernel_rfl
@[go_sem] theorem ty_tmap_115 : tmap prog 115 = none := by kernel_rfl
@[go_sem] theorem ty_tmap_117 : tmap prog 117 = none := by kernel_rfl
@[go_sem] theorem ty_tmap_126 : tmap prog 126 = none := by kernel_rfl
@[go_sem] theorem ty_tmap_148 : tmap prog 148 = none := by kernel_rfl
@[go_sem] theorem ty_tmap_151 : tmap prog 151 = none := by kernel_rfl
@[go_sem] theorem ty_tmap_156 : tmap prog 156 = none := by kernel_rfl
@[go_sem] theorem ty_tmap_167 : tmap prog 167 = none := by kernel_rfl
@[go_sem] theorem ty_tmap_183 : tmap prog 183 = none := by kernel_rfl
@[go_sem] theorem ty_tmap_188 : tmap prog 188 = none := by kernel_rfl
@[go_sem] theorem ty_tmap_189 : tmap prog 189 = none := by kernel_rfl
@[go_sem] theorem ty_tmap_192 : tmap prog 192 = none := by kernel_rfl
@[go_sem] theorem ty_tmap_194 : tmap prog 194 = some (183, 4) := by kernel_rfl
@[go_sem] theorem ty_tmap_22 : tmap prog 22 = none := by kernel_rfl
@[go_sem] theorem ty_tmap_24 : tmap prog 24 = none := by kernel_rfl
@[go_sem] theorem ty_tmap_27 : tmap prog 27 = none := by kernel_rfl
@[go_sem] theorem ty_tmap_29 : tmap prog 29 = none := by kernel_rfl
@[go_sem] theorem ty_tmap_3 : tmap prog 3 = none := by kernel_rfl
@[go_sem] theorem ty_tmap_31 : tmap prog 31 = none := by kernel_rfl
@[go_sem] theorem ty_tmap_33 : tmap prog 33 = none := by kernel_rfl
@[go_sem] theorem ty_tmap_41 : tmap prog 41 = none := by kernel_rfl
@[go_sem] theorem ty_tmap_43 : tmap prog 43 = none := by kernel_rfl
@[go_sem] theorem ty_tmap_5 : tmap prog 5 = none := by kernel_rfl
@[go_sem] theorem ty_tmap_50 : tmap prog 50 = none := by kernel_rfl
@[go_sem] theorem ty_tmap_52 : tmap prog 52 = none := by kernel_rfl
@[go_sem] theorem ty_tmap_61 : tmap prog 61 = none := by kernel_rfl
@[go_sem] theorem ty_tmap_63 : tmap prog 63 = none := by kernel_rfl
@[go_sem] theorem ty_tmap_64 : tmap prog 64 = none := by kernel_rfl
@[go_sem] theorem ty_tmap_83 : tmap prog 83 = none := by kernel_rfl
@[go_sem] theorem ty_tmap_85 : tmap prog 85 = none := by kernel_rfl
@[go_sem] theorem ty_tmap_92 : tmap prog 92 = none := by kernel_rfl
@[go_sem] theorem ty_tmap_98 : tmap prog 98 = none := by kernel_rfl
@[go_sem] theorem ty_tstr_100 : tstr prog 100 = false := by kernel_rfl
@[go_sem] theorem ty_tstr_106 : tstr prog 106 = false := by kernel_rfl
@[go_sem] theorem ty_tstr_115 : tstr prog 115 = false := by kernel_rfl
@[go_sem] theorem ty_tstr_117 : tstr prog 117 = false := by kernel_rfl
@[go_sem] theorem ty_tstr_126 : tstr prog 126 = false := by kernel_rfl
@[go_sem] theorem ty_tstr_148 : tstr prog 148 = false := by kernel_rfl
@[go_sem] theorem ty_tstr_151 : tstr prog 151 = false := by kernel_rfl
@[go_sem] theorem ty_tstr_156 : tstr prog 156 = false := by kernel_rfl
@[go_sem] theorem ty_tstr_167 : tstr prog 167 = false := by kernel_rfl
@[go_sem] theorem ty_tstr_183 : tstr prog 183 = false := by kernel_rfl
@[go_sem] theorem ty_tstr_188 : tstr prog 188 = false := by kernel_rfl
@[go_sem] theorem ty_tstr_189 : tstr prog 189 = false := by kernel_rfl
@[go_sem] theorem ty_tstr_192 : tstr prog 192 = false := by kernel_rfl
@[go_sem] theorem ty_tstr_22 : tstr prog 22 = false := by kernel_rfl
@[go_sem] theorem ty_tstr_24 : tstr prog 24 = false := by kernel_rfl
@[go_sem] theorem ty_tstr_27 : tstr prog 27 = false := by kernel_rfl
@[go_sem] theorem ty_tstr_29 : tstr prog 29 = false := by kernel_rfl
@[go_sem] theorem ty_tstr_3 : tstr prog 3 = false := by kernel_rfl
@[go_sem] theorem ty_tstr_31 : tstr prog 31 = false := by kernel_rfl
@[go_sem] theorem ty_tstr_33 : tstr prog 33 = false := by kernel_rfl
@[go_sem] theorem ty_tstr_41 : tstr prog 41 = false := by kernel_rfl
@[go_sem] theorem ty_tstr_43 : tstr prog 43 = false := by kernel_rfl
@[go_sem] theorem ty_tstr_5 : tstr prog 5 = false := by kernel_rfl
@[go_sem] theorem ty_tstr_50 : tstr prog 50 = false := by kernel_rfl
@[go_sem] theorem ty_tstr_52 : tstr prog 52 = false := by kernel_rfl
@[go_sem] theorem ty_tstr_61 : tstr prog 61 = false := by kernel_rfl
@[go_sem] theorem ty_tstr_63 : tstr prog 63 = false := by kernel_rfl
@[go_sem] theorem ty_tstr_64 : tstr prog 64 = false := by kernel_rfl
@[go_sem] theorem ty_tstr_83 : tstr prog 83 = false := by kernel_rfl
@[go_sem] theorem ty_tstr_85 : tstr prog 85 = false := by kernel_rfl
@[go_sem] theorem ty_tstr_92 : tstr prog 92 = false := by kernel_rfl
@[go_sem] theorem ty_tstr_98 : tstr prog 98 = false := by kernel_rfl
set_option maxRecDepth 10000
attribute [go_sem] Nat.reduceLT Nat.reduceLeDiff Nat.reduceEqDiff Nat.reduceAdd Nat.reduceSub Nat.reduceMul Nat.reduceBEq Int.reduceToNat Int.reduceEq Int.reduceLT Int.reduceLE Int.reduceAdd reduceCtorEq
attribute [go_sem ↓] reduceIte
theorem mixed : prog.follows .mixedOrders = true := by kernel_rfl
theorem none_is : PureIs prog 98 [] (.ag [.sc (.int .i64 (-1)), .sc (.int .i64 (-1))]) := by
 refine PureIs.of (nv := 1) (hid := []) func98 rfl (by kernel_rfl) (by simp) fun _ => ?_
 rw [ntmps98, results98]
 refine EvC.seq (EvC.rg (by simp only [go_sem]; rfl) rfl ?_)
 refine EvC.seq (EvC.rg (by simp only [go_sem]; rfl) rfl ?_)
 refine EvC.ret ⟨.inl rfl, _, (by simp only [go_sem]; rfl), rfl, rfl⟩
def I (n : Int) : AV := .sc (.int .i64 n)
def B (b : Bool) : AV := .sc (.bool b)
def intC (x : Int) : List AV := [.sc (.int .i64 x)]
@[go_sem] theorem norefs_ints (l : List Int) : (l.map intC).all AV.norefs = true := by simp [List.all_eq_true, intC, AV.norefs, AV.noref]
def fitsR (n o to out : Int) : Bool := decide (to = -1) && decide (out = -1) || (decide (0 ≤ to) && decide (to < n) && decide (0 ≤ out) && decide (out < o))
theorem fits_is (i o : Int) (nl : Bool) (rows : List (List AV)) (c : Cp) (to out : Int) :
  PureIs prog 69 [.ag [.sc (.int .i64 i), .sc (.int .i64 o), .sl nl rows c], .ag [.sc (.int .i64 to), .sc (.int .i64 out)]] (.sc (.bool (fitsR rows.length o to out))) := by
 refine PureIs.of1 5 [] func69 ntmps69 results69 fun _ => ?_
 refine EvC.seq (EvC.rg (by simp only [go_sem]; rfl) rfl ?_)
 apply EvC.seq
 apply EvC.drw mixed
 case ht =>
  apply Tr.run
  ·simp only [go_sem] <;> rfl
  ·rfl
  apply Tr.cons
  ·exact .call rfl rfl (by simp only [go_sem] <;> rfl) (by simp only [go_sem] <;> rfl) (by simp only [go_sem] <;> rfl) (by simp only [go_sem] <;> rfl) (by simp only [go_sem] <;> rfl) none_is
  apply Tr.done
  ·simp only [go_sem] <;> rfl
  ·simp
 case hc => kernel_rfl
 case hq =>
  refine EvC.rz ?_
  simp only [go_sem]
  congr 2
  unfold fitsR
  by_cases h1 : to = -1 <;> by_cases h2 : out = -1 <;> by_cases h3 : 0 ≤ to <;> by_cases h4 : to < rows.length <;> by_cases h5 : 0 ≤ out <;> simp [h1, h2, h3, h4, h5]
def edgeC (e : Int × Int) : List AV := [.sc (.int .i64 e.1), .sc (.int .i64 e.2)]
@[go_sem] theorem norefs_edges (l : List (Int × Int)) : (l.map edgeC).all AV.norefs = true := by simp [List.all_eq_true, edgeC, AV.norefs, AV.noref]
theorem check1_is (i o : Int) (nl : Bool) (rows : List (List AV)) (c : Cp) (to out : Int) :
  PureIs prog 68 [.ag [.sc (.int .i64 to), .sc (.int .i64 out)], .ia [.sc (.int .i64 i), .sc (.int .i64 o), .sl nl rows c]] (.sc (.bool (!fitsR rows.length o to out))) := by
 refine PureIs.of1 4 [] func68 ntmps68 results68 fun _ => ?_
 refine EvC.seq (EvC.rg (by simp only [go_sem] <;> rfl) rfl ?_)
 apply EvC.s1
 ·apply Tr.run
  ·simp only [go_sem] <;> rfl
  ·rfl
  apply Tr.cons
  ·exact .ca (fits_is _ _ _ _ _ _ _)
  apply Tr.done
  ·simp only [go_sem] <;> rfl
  ·rfl
 refine EvC.rz ?_
 simp only [go_sem]
def findIdxR (p : Int × Int → Bool) : List (Int × Int) → Int → Int
 | [], _ => -1
 | e :: es, i => if p e = true then i else findIdxR p es (i + 1)
theorem indexFunc_is (nl : Bool) (xs : List (Int × Int)) (c : Cp) (f : FuncId) (cs : List AV) (hcs : AV.norefs cs = true) (p : Int × Int → Bool) (hp : ∀ e ∈ xs, PureIs prog f (.ag (edgeC e) :: cs) (.sc (.bool (p e)))) (hl : xs.length < 1000000) :
  PureIs prog 97 [.sl nl (xs.map edgeC) c, .fn f cs] (.sc (.int .i64 (findIdxR p xs 0))) := by
 refine PureIs.of1 6 [6, 7, 8, 9, 16] func97 ntmps97 results97 fun _ => ?_
 refine EvC.seq (EvC.rg (by simp only [go_sem] <;> rfl) rfl ?_)
 refine EvC.seq ?_
 refine EvC.seq (EvC.rg (by simp only [go_sem] <;> rfl) rfl ?_)
 refine EvC.block (EvC.loopS (σ := Nat) (fun i => ⟨[(0, .sl nl (xs.map edgeC) c), (1, .fn f cs), (7, .sc (.int .i64 xs.length)), (8, .sc (.int .i64 i))], [], [], 0⟩) (fun i => xs.length - i) (fun i => i ≤ xs.length ∧ findIdxR p xs 0 = findIdxR p (xs.drop i) i) [0, 1, 7, 8] 0 ?_ ?_)
 ·refine ⟨[], 0, rfl, (by simp only [go_sem, hcs] <;> rfl), Nat.zero_le _, by simp⟩
 ·rintro i ⟨h1, h2⟩
  refine EvC.seq (EvC.rg (by simp only [go_sem] <;> rfl) rfl ?_)
  refine EvC.seq (EvC.cond (by simp only [go_sem] <;> rfl) (fun hc => ?_) (fun hc => ?_))
  ·refine EvC.skip ?_
   have hi : i < xs.length := by simpa using hc
   have he : xs[i]? = some xs[i] := List.getElem?_eq_getElem hi
   generalize xs[i] = e at he
   have hm : e ∈ xs := List.mem_of_getElem? he
   have hd : xs.drop i = e :: xs.drop (i + 1) := by
    rw [List.drop_eq_getElem_cons hi]; congr 1; rw [List.getElem?_eq_getElem hi] at he; simpa using he
   refine EvC.seq ?_
   refine EvC.block (EvC.seq (EvC.rg (by simp only [go_sem] <;> rfl) rfl ?_))
   apply EvC.s1
   ·apply Tr.run
    ·simp only [go_sem, he, edgeC] <;> rfl
    ·simp
    apply Tr.cons
    ·exact .call rfl rfl (by simp only [go_sem] <;> rfl) (by simp only [go_sem] <;> rfl) (by simp only [go_sem] <;> rfl) (by simp only [go_sem, hcs] <;> rfl) (by simp only [go_sem] <;> rfl) (hp e hm)
    apply Tr.done
    ·simp only [go_sem] <;> rfl
    ·rfl
   refine EvC.cond (by simp only [go_sem] <;> rfl) (fun hc => ?_) (fun hc => ?_)
   ·refine EvC.seq (EvC.rg (by simp only [go_sem] <;> rfl) rfl ?_)
    refine EvC.rz ?_
    simp only [go_sem]
    rw [h2, hd, findIdxR, if_pos hc]
   ·refine EvC.skip ?_
    refine EvC.rg (by simp only [go_sem] <;> rfl) ?_ ?_
    ·exact inI64_of (by omega) (by omega)
    refine ⟨[], i + 1, rfl, ?_, ⟨by omega, ?_⟩, by omega⟩
    ·simp only [go_sem, hcs] <;> rfl
    ·rw [h2, hd, findIdxR, if_neg (by simp [hc])]; rfl
  ·refine EvC.exit ?_
   have hi : ¬ i < xs.length := by simpa using hc
   refine EvC.seq (EvC.rg (by simp only [go_sem] <;> rfl) rfl ?_)
   refine EvC.rz ?_
   simp only [go_sem]
   rw [h2, List.drop_of_length_le (by omega)]; rfl
theorem findIdxR_any (p : Int × Int → Bool) : ∀ (es : List (Int × Int)) (i : Int), 0 ≤ i → decide (0 ≤ findIdxR p es i) = es.any p
 | [], i, _ => by simp [findIdxR]
 | e :: es, i, h => by
   unfold findIdxR
   split
   ·rename_i hp; simp [hp, h]
   ·rename_i hp
    rw [findIdxR_any p es (i + 1) (by omega)]
    simp [hp]
theorem containsFunc_is (nl : Bool) (xs : List (Int × Int)) (c : Cp) (f : FuncId) (cs : List AV) (hcs : AV.norefs cs = true) (p : Int × Int → Bool) (hp : ∀ e ∈ xs, PureIs prog f (.ag (edgeC e) :: cs) (.sc (.bool (p e)))) (hl : xs.length < 1000000) :
  PureIs prog 67 [.sl nl (xs.map edgeC) c, .fn f cs] (.sc (.bool (xs.any p))) := by
 refine PureIs.of1 5 [] func67 ntmps67 results67 fun _ => ?_
 refine EvC.seq (EvC.rg (by simp only [go_sem] <;> rfl) rfl ?_)
 apply EvC.s1
 ·apply Tr.run
  ·simp only [go_sem] <;> rfl
  ·rfl
  apply Tr.cons
  ·exact .call rfl rfl (by simp only [go_sem] <;> rfl) (by simp only [go_sem] <;> rfl) (by simp only [go_sem] <;> rfl) (by simp only [go_sem, hcs] <;> rfl) (by simp only [go_sem] <;> rfl) (indexFunc_is _ _ _ _ _ hcs _ hp hl)
  apply Tr.done
  ·simp only [go_sem] <;> rfl
  ·rfl
 refine EvC.rz ?_
 simp only [go_sem]
 rw [findIdxR_any _ _ _ (Int.le_refl 0)]
abbrev Row := Bool × List (Int × Int)
def rowC (r : Row) : List AV := [.sl r.1 (r.2.map edgeC) .unk]
structure Mach where
 ins : Int
 outs : Int
 nl : Bool
 rows : List Row
def Mach.cells (m : Mach) : List AV := [.sc (.int .i64 m.ins), .sc (.int .i64 m.outs), .sl m.nl (m.rows.map rowC) .unk]
def rowOk (m : Mach) (r : Row) : Bool := decide ((r.2.length : Int) = m.ins) && !(r.2.any fun e => !fitsR m.rows.length m.outs e.1 e.2)
def checkM (m : Mach) : Int :=
 if 16 < m.ins ∨ 16 < m.outs ∨ 64 < (m.rows.length : Int) then 3
 else if m.ins < 1 ∨ m.outs < 1 ∨ (m.rows.length : Int) < 1 then 1
 else if m.rows.all (rowOk m) = true then 0 else 1
theorem check_is (m : Mach) (hr : ∀ r ∈ m.rows, r.2.length < 1000000) : PureIs prog 41 [.ag m.cells] (.sc (.int .i64 (checkM m))) := by
 refine PureIs.of1 5 [18, 32, 34, 35, 36, 37, 49] func41 ntmps41 results41 fun _ => ?_
 refine EvC.seq (EvC.rg (by simp only [go_sem, Mach.cells] <;> rfl) rfl ?_)
 refine EvC.z 0 ?_
 refine EvC.seq ?_
 apply EvC.seq
 apply EvC.trd
 ·simp only [go_sem] <;> rfl
 ·simp
 refine EvC.cond (by simp only [go_sem] <;> rfl) (fun hc => ?_) (fun hc => ?_)
 ·refine EvC.seq (EvC.rg (by simp only [go_sem] <;> rfl) rfl ?_)
  refine EvC.rz ?_
  simp only [go_sem]
  have h : 16 < m.ins ∨ 16 < m.outs ∨ 64 < (m.rows.length : Int) := by
   by_cases h1 : 16 < m.ins <;> by_cases h2 : 16 < m.outs <;> simp_all
  rw [checkM, if_pos h]
 have hn : ¬ (16 < m.ins ∨ 16 < m.outs ∨ 64 < (m.rows.length : Int)) := by
  by_cases h1 : 16 < m.ins <;> by_cases h2 : 16 < m.outs <;> simp_all
 refine EvC.skip ?_
 refine EvC.seq ?_
 apply EvC.seq
 apply EvC.trd
 ·simp only [go_sem] <;> rfl
 ·simp
 refine EvC.cond (by simp only [go_sem] <;> rfl) (fun hc => ?_) (fun hc => ?_)
 ·refine EvC.seq (EvC.rg (by simp only [go_sem] <;> rfl) rfl ?_)
  refine EvC.rz ?_
  simp only [go_sem]
  have h : m.ins < 1 ∨ m.outs < 1 ∨ (m.rows.length : Int) < 1 := by
   by_cases h1 : m.ins < 1 <;> by_cases h2 : m.outs < 1 <;> simp_all
  rw [checkM, if_neg hn, if_pos h]
 have hn2 : ¬ (m.ins < 1 ∨ m.outs < 1 ∨ (m.rows.length : Int) < 1) := by
  by_cases h1 : m.ins < 1 <;> by_cases h2 : m.outs < 1 <;> simp_all
 refine EvC.skip ?_
 have hlen : (m.rows.length : Int) ≤ 64 := by omega
 refine EvC.seq ?_
 refine EvC.a ?_
 refine EvC.block (EvC.loopS (σ := Nat) (fun i => ⟨[(1, .ia m.cells), (34, .sl m.nl (m.rows.map rowC) .unk), (35, .sc (.int .i64 m.rows.length)), (36, .sc (.int .i64 i))], [], [], 0⟩) (fun i => m.rows.length - i) (fun i => i ≤ m.rows.length ∧ m.rows.all (rowOk m) = (m.rows.drop i).all (rowOk m)) [1, 34, 35, 36] 0 ?_ ?_)
 ·refine ⟨[], 0, rfl, (by simp only [go_sem, Mach.cells] <;> rfl), Nat.zero_le _, by simp⟩
 rintro i ⟨h1, h2⟩
 refine EvC.seq (EvC.rg (by simp only [go_sem] <;> rfl) rfl ?_)
 refine EvC.seq (EvC.cond (by simp only [go_sem] <;> rfl) (fun hc => ?_) (fun hc => ?_))
 ·refine EvC.skip ?_
  have hi : i < m.rows.length := by simpa using hc
  have he : m.rows[i]? = some m.rows[i] := List.getElem?_eq_getElem hi
  generalize m.rows[i] = r at he
  have hm : r ∈ m.rows := List.mem_of_getElem? he
  have hd : m.rows.drop i = r :: m.rows.drop (i + 1) := by
   rw [List.drop_eq_getElem_cons hi]; congr 1; rw [List.getElem?_eq_getElem hi] at he; simpa using he
  refine EvC.seq ?_
  refine EvC.block (EvC.seq (EvC.rg (by simp only [go_sem, he, rowC] <;> rfl) (by simp) ?_))
  by_cases hl : (r.2.length : Int) = m.ins
  ·apply EvC.s1
   ·apply Tr.run
    ·simp only [go_sem, Mach.cells, hl] <;> rfl
    ·simp
    apply Tr.cons
    ·exact .cg (containsFunc_is r.1 r.2 .unk 68 [.ia m.cells] rfl (fun e => !fitsR m.rows.length m.outs e.1 e.2) (fun e _ => by simpa [edgeC, Mach.cells] using check1_is m.ins m.outs m.nl (m.rows.map rowC) .unk e.1 e.2) (hr r hm))
    apply Tr.done
    ·simp only [go_sem] <;> rfl
    ·simp
   refine EvC.cond (by simp only [go_sem] <;> rfl) (fun hc2 => ?_) (fun hc2 => ?_)
   ·refine EvC.seq (EvC.rg (by simp only [go_sem] <;> rfl) rfl ?_)
    refine EvC.rz ?_
    simp only [go_sem]
    rw [checkM, if_neg hn, if_neg hn2, h2, hd, List.all_cons]
    simp [rowOk, hc2]
   ·refine EvC.skip ?_
    refine EvC.rg (by simp only [go_sem] <;> rfl) ?_ ?_
    ·exact inI64_of (by omega) (by omega)
    refine ⟨[], i + 1, rfl, (by simp only [go_sem, Mach.cells] <;> rfl), ⟨by omega, ?_⟩, by omega⟩
    rw [h2, hd, List.all_cons]
    simp [rowOk, hl, hc2]
  ·apply EvC.s1
   ·apply Tr.run
    ·simp only [go_sem, Mach.cells, hl] <;> rfl
    ·simp
    apply Tr.cons
    ·exact .skipv (.sc (.bool false)) rfl rfl (by simp only [go_sem] <;> rfl) (by simp only [go_sem] <;> rfl)
    apply Tr.done
    ·simp only [go_sem] <;> rfl
    ·simp
   refine EvC.ct ?_
   refine EvC.seq (EvC.rg (by simp only [go_sem] <;> rfl) rfl ?_)
   refine EvC.rz ?_
   simp only [go_sem]
   rw [checkM, if_neg hn, if_neg hn2, h2, hd, List.all_cons]
   simp [rowOk, hl]
 ·refine EvC.exit ?_
  have hi : ¬ i < m.rows.length := by simpa using hc
  refine EvC.seq (EvC.rg (by simp only [go_sem] <;> rfl) rfl ?_)
  refine EvC.rz ?_
  simp only [go_sem]
  rw [checkM, if_neg hn, if_neg hn2, h2, List.drop_of_length_le (by omega)]; rfl
def stepM (m : Mach) (s a : Int) : Int × Int := (((m.rows[s.toNat]?).map (·.2)).getD [])[a.toNat]?.getD (-1, -1)
def edgeA (e : Int × Int) : AV := .ag [.sc (.int .i64 e.1), .sc (.int .i64 e.2)]
structure Valid (m : Mach) : Prop where
 ins : 1 ≤ m.ins ∧ m.ins ≤ 16
 outs : 1 ≤ m.outs ∧ m.outs ≤ 16
 rows : 1 ≤ m.rows.length ∧ m.rows.length ≤ 64
 row : ∀ r ∈ m.rows, (r.2.length : Int) = m.ins ∧ ∀ e ∈ r.2, fitsR m.rows.length m.outs e.1 e.2 = true
theorem Valid.of {m : Mach} (h : checkM m = 0) : Valid m := by
 unfold checkM at h
 split at h
 ·cases h
 ·split at h
  ·cases h
  ·split at h
   ·rename_i h1 h2 h3
    rw [List.all_eq_true] at h3
    refine ⟨by omega, by omega, by omega, fun r hr => ?_⟩
    have := h3 r hr
    simp only [rowOk, Bool.and_eq_true, decide_eq_true_eq, Bool.not_eq_true', List.any_eq_false] at this
    exact ⟨this.1, fun e he => by simpa using this.2 e he⟩
   ·cases h
def stepR (m : Mach) (s a : Int) : Int × Int := if s < 0 then (-1, -1) else (((m.rows[s.toNat]?).map (·.2)).getD [])[a.toNat]?.getD (-1, -1)
theorem stepR_get {m : Mach} (hv : Valid m) {s a : Int} (h0 : 0 ≤ s) (hs : s < m.rows.length) (ha : 0 ≤ a ∧ a < m.ins) :
  ∃ r e, m.rows[s.toNat]? = some r ∧ r.2[a.toNat]? = some e ∧ stepR m s a = e ∧ fitsR m.rows.length m.outs e.1 e.2 = true := by
 have h1 : m.rows[s.toNat]? = some m.rows[s.toNat] := List.getElem?_eq_getElem (by omega)
 obtain ⟨h2, h3⟩ := hv.row _ (List.getElem_mem (show s.toNat < m.rows.length by omega))
 have h4 : (m.rows[s.toNat]).2[a.toNat]? = some ((m.rows[s.toNat]).2[a.toNat]'(by omega)) := List.getElem?_eq_getElem _
 exact ⟨_, _, h1, h4, by rw [stepR, if_neg (by omega), h1]; simp only [Option.map_some, Option.getD_some, h4], h3 _ (List.getElem_mem _)⟩
def runR (m : Mach) : Int → List Int → List Int
 | _, [] => []
 | s, a :: w => (stepR m s a).2 :: runR m (stepR m s a).1 w
theorem stepR_lt {m : Mach} (hv : Valid m) {s a : Int} (hs : s < m.rows.length) (ha : 0 ≤ a ∧ a < m.ins) : (stepR m s a).1 < m.rows.length := by
 by_cases h0 : 0 ≤ s
 ·obtain ⟨r, e, _, _, h3, h4⟩ := stepR_get hv h0 hs ha
  rw [h3]
  have := hv.rows
  unfold fitsR at h4
  simp at h4; omega
 ·rw [stepR, if_pos (by omega)]; have := hv.rows; simp only; omega
def rowF (r : List (Int × Int)) : List AV := rowC (false, r)
@[go_sem] theorem norefs_rowF (l : List (List (Int × Int))) : (l.map rowF).all AV.norefs = true := by simp [List.all_eq_true, rowF, rowC, AV.norefs, AV.noref]
structure LM where
 st : Int
 ins : Int
 outs : Int
 part : Bool
 nl : Bool
 es : List Int
 cap : Cp
def u16C (x : Int) : List AV := [.sc (.int .u16 x)]
@[go_sem] theorem norefs_u16 (l : List Int) : (l.map u16C).all AV.norefs = true := by simp [List.all_eq_true, u16C, AV.norefs, AV.noref]
def LM.cells (x : LM) : List AV := [.sc (.int .u8 x.st), .sc (.int .u8 x.ins), .sc (.int .u8 x.outs), .sc (.bool x.part), .sl x.nl (x.es.map u16C) x.cap]
structure LM.Ok (x : LM) : Prop where
 st : 0 ≤ x.st
 ins : 0 ≤ x.ins
 outs : 0 ≤ x.outs
 es : ∀ e ∈ x.es, 0 ≤ e ∧ e < 65536
def LM.n (x : LM) : Nat := (1 + x.st % 6).toNat
def LM.i (x : LM) : Nat := (1 + x.ins % 3).toNat
def LM.o (x : LM) : Int := 1 + x.outs % 3
def LM.v (x : LM) (s i : Nat) : Int := (x.es[s * x.i + i]?).getD 0
def LM.edge (x : LM) (s i : Nat) : Int × Int :=
 if x.part = true ∧ x.v s i % 4 = 3 then (-1, -1) else (x.v s i / 4 % x.n, x.v s i / 4 / x.n % x.o)
def LM.row (x : LM) (s : Nat) : List (Int × Int) := (List.range x.i).map (x.edge s)
def LM.mach (x : LM) : Mach := ⟨x.i, x.o, false, (List.range x.n).map fun s => (false, x.row s)⟩
theorem LM.bounds {x : LM} (h : x.Ok) : 1 ≤ x.n ∧ x.n ≤ 6 ∧ 1 ≤ x.i ∧ x.i ≤ 3 ∧ 1 ≤ x.o ∧ x.o ≤ 3 ∧ (x.n : Int) = 1 + x.st % 6 ∧ (x.i : Int) = 1 + x.ins % 3 := by
 have h1 := h.st
 have h2 := h.ins
 have h3 := h.outs
 unfold LM.n LM.i LM.o
 omega
theorem set_mid {α : Type} (a b : List α) (x y : α) : (a ++ x :: b).set a.length y = a ++ y :: b := by simp
def findIdxI (p : Int → Bool) : List Int → Int → Int
 | [], _ => -1
 | e :: es, i => if p e = true then i else findIdxI p es (i + 1)
theorem findIdxI_any (p : Int → Bool) : ∀ (es : List Int) (i : Int), 0 ≤ i → decide (0 ≤ findIdxI p es i) = es.any p
 | [], i, _ => by simp [findIdxI]
 | e :: es, i, h => by
   unfold findIdxI
   split
   ·rename_i hp; simp [hp, h]
   ·rename_i hp
    rw [findIdxI_any p es (i + 1) (by omega)]
    simp [hp]
theorem indexInt_is (nl : Bool) (xs : List Int) (c : Cp) (f : FuncId) (cs : List AV) (hcs : AV.norefs cs = true) (p : Int → Bool) (hp : ∀ e ∈ xs, PureIs prog f (.sc (.int .i64 e) :: cs) (.sc (.bool (p e)))) (hl : xs.length < 1000000) :
  PureIs prog 114 [.sl nl (xs.map intC) c, .fn f cs] (.sc (.int .i64 (findIdxI p xs 0))) := by
 refine PureIs.of1 2 [4, 5, 7, 8, 9, 16] func114 ntmps114 results114 fun _ => ?_
 refine EvC.a ?_
 refine EvC.seq ?_
 refine EvC.a ?_
 refine EvC.block ?_
 refine EvC.loopS (σ := Nat) (fun i => ⟨[(0, .sl nl (xs.map intC) c), (1, .fn f cs), (7, .sc (.int .i64 xs.length)), (8, .sc (.int .i64 i))], [], [], 0⟩) (fun i => xs.length - i) (fun i => i ≤ xs.length ∧ findIdxI p xs 0 = findIdxI p (xs.drop i) i) [0, 1, 7, 8] 0 ?_ ?_
 ·refine ⟨[], 0, rfl, (by simp only [go_sem, hcs] <;> rfl), Nat.zero_le _, by simp⟩
 rintro i ⟨h1, h2⟩
 refine EvC.a ?_
 refine EvC.seq ?_
 refine EvC.cond (by simp only [go_sem] <;> rfl) (fun hc => ?_) (fun hc => ?_)
 rotate_left
 ·refine EvC.exit ?_
  have hi : ¬ i < xs.length := by simpa using hc
  refine EvC.a ?_
  refine EvC.rz ?_
  simp only [go_sem]
  rw [h2, List.drop_of_length_le (by omega)]; rfl
 have hi : i < xs.length := by simpa using hc
 have he : xs[i]? = some xs[i] := List.getElem?_eq_getElem hi
 have hd : xs.drop i = xs[i] :: xs.drop (i + 1) := List.drop_eq_getElem_cons hi
 have hm : xs[i] ∈ xs := List.getElem_mem hi
 generalize xs[i] = e at he hd hm
 refine EvC.skip ?_
 refine EvC.seq ?_
 refine EvC.block ?_
 refine EvC.a ?_
 apply EvC.s1
 ·apply Tr.run
  ·simp only [go_sem, he, intC] <;> rfl
  ·simp
  apply Tr.cons
  ·exact .call rfl rfl (by simp only [go_sem] <;> rfl) (by simp only [go_sem] <;> rfl) (by simp only [go_sem] <;> rfl) (by simp only [go_sem, hcs] <;> rfl) (by simp only [go_sem] <;> rfl) (hp e hm)
  apply Tr.done
  ·simp only [go_sem] <;> rfl
  ·simp
 refine EvC.cond (by simp only [go_sem] <;> rfl) (fun hc => ?_) (fun hc => ?_)
 ·refine EvC.a ?_
  refine EvC.rz ?_
  simp only [go_sem]
  rw [h2, hd, findIdxI, if_pos hc]
 refine EvC.skip ?_
 refine EvC.b ?_ (hok := by exact inI64_of (by omega) (by omega))
 refine ⟨[], i + 1, rfl, (by simp only [go_sem, hcs] <;> rfl), ⟨by omega, ?_⟩, by omega⟩
 rw [h2, hd, findIdxI, if_neg (by simp [hc])]; rfl
theorem containsInt_is (nl : Bool) (xs : List Int) (c : Cp) (f : FuncId) (cs : List AV) (hcs : AV.norefs cs = true) (p : Int → Bool) (hp : ∀ e ∈ xs, PureIs prog f (.sc (.int .i64 e) :: cs) (.sc (.bool (p e)))) (hl : xs.length < 1000000) :
  PureIs prog 91 [.sl nl (xs.map intC) c, .fn f cs] (.sc (.bool (xs.any p))) := by
 refine PureIs.of1 2 [4] func91 ntmps91 results91 fun _ => ?_
 refine EvC.a ?_
 apply EvC.s1
 ·apply Tr.run
  ·simp only [go_sem] <;> rfl
  ·simp
  apply Tr.cons
  ·exact .call rfl rfl (by simp only [go_sem] <;> rfl) (by simp only [go_sem] <;> rfl) (by simp only [go_sem] <;> rfl) (by simp only [go_sem, hcs] <;> rfl) (by simp only [go_sem] <;> rfl) (indexInt_is _ _ _ _ _ hcs _ hp hl)
  apply Tr.done
  ·simp only [go_sem] <;> rfl
  ·simp
 refine EvC.rz ?_
 simp only [go_sem]
 rw [findIdxI_any _ _ _ (Int.le_refl 0)]
theorem wcheck1_is (x n : Int) : PureIs prog 126 [.sc (.int .i64 x), .ia [.sc (.int .i64 n)]] (.sc (.bool (decide (x < 0) || decide (n ≤ x)))) := by
 refine PureIs.of1 2 [3] func126 ntmps126 results126 fun _ => ?_
 refine EvC.a ?_
 refine EvC.g ?_
 refine EvC.rz ?_
 simp only [go_sem]
 by_cases h : x < 0 <;> simp [h]
def wordErr (n : Int) (w : List Int) : Int := if 16 < n ∨ 256 < w.length then 3 else if n < 1 ∨ w.any (fun c => decide (c < 0) || decide (n ≤ c)) = true then 1 else 0
theorem wordCheck_is (nl : Bool) (w : List Int) (c : Cp) (n : Int) (hl : w.length < 1000000) : PureIs prog 112 [.sl nl (w.map intC) c, .sc (.int .i64 n)] (.sc (.int .i64 (wordErr n w))) := by
 refine PureIs.of1 2 [3, 4, 11, 18] func112 ntmps112 results112 fun _ => ?_
 refine EvC.a ?_
 refine EvC.z 0 ?_
 refine EvC.seq ?_
 refine EvC.g ?_
 refine EvC.cond (by simp only [go_sem] <;> rfl) (fun hc => ?_) (fun hc => ?_)
 ·have h : 16 < n ∨ 256 < w.length := by by_cases h1 : 16 < n <;> simp_all; omega
  refine EvC.a ?_
  refine EvC.rz ?_
  simp only [go_sem]
  rw [wordErr, if_pos h]
 have hn : ¬ (16 < n ∨ 256 < w.length) := by by_cases h1 : 16 < n <;> simp_all; omega
 refine EvC.skip ?_
 refine EvC.seq ?_
 by_cases h1 : n < 1
 ·have h1' : decide (n < 1) = true := by simp [h1]
  apply EvC.s1
  ·apply Tr.run
   ·simp only [go_sem] <;> rfl
   ·simp
   apply Tr.cons
   ·exact .skipv (.sc (.bool false)) rfl rfl (by simp only [go_sem, h1'] <;> rfl) (by simp only [go_sem] <;> rfl)
   apply Tr.done
   ·simp only [go_sem, h1'] <;> rfl
   ·simp
  refine EvC.ct ?_
  refine EvC.a ?_
  refine EvC.rz ?_
  simp only [go_sem]
  rw [wordErr, if_neg hn, if_pos (.inl h1)]
 have h1' : decide (n < 1) = false := by simp [h1]
 refine EvC.k1 ?_ (h1 := by simp only [go_sem, h1'] <;> rfl) (c1 := .cg (containsInt_is nl w c 126 [.ia [.sc (.int .i64 n)]] rfl (fun c => decide (c < 0) || decide (n ≤ c)) (fun e _ => wcheck1_is e n) hl)) (h2 := by simp only [go_sem, h1'] <;> rfl)
 refine EvC.cond (by simp only [go_sem] <;> rfl) (fun hc => ?_) (fun hc => ?_)
 ·refine EvC.a ?_
  refine EvC.rz ?_
  simp only [go_sem]
  rw [wordErr, if_neg hn, if_pos (.inr hc)]
 refine EvC.skip ?_
 refine EvC.a ?_
 refine EvC.rz ?_
 simp only [go_sem]
 rw [wordErr, if_neg hn, if_neg (by simp only [not_or]; exact ⟨h1, by simpa using hc⟩)]
def stateErr (m : Mach) (l : List Int) : Int := if checkM m ≠ 0 then checkM m else if l.any (fun x => decide (x < 0) || decide ((m.rows.length : Int) ≤ x)) = true then 1 else 0
theorem mstate_is (m : Mach) (hr : ∀ r ∈ m.rows, r.2.length < 1000000) (s : Int) : PureIs prog 111 [.ag m.cells, .sc (.int .i64 s)] (.sc (.int .i64 (stateErr m [s]))) := by
 refine PureIs.of1 3 [4, 5, 9, 19] func111 ntmps111 results111 fun _ => ?_
 refine EvC.a ?_ (by simp only [go_sem, Mach.cells] <;> rfl)
 refine EvC.z 0 ?_
 refine EvC.seq ?_
 refine EvC.k1 ?_ (h1 := by simp only [go_sem, Mach.cells] <;> rfl) (c1 := .ca (check_is m hr))
 refine EvC.a ?_
 refine EvC.cond (by simp only [go_sem] <;> rfl) (fun hc => ?_) (fun hc => ?_)
 ·refine EvC.a ?_
  refine EvC.rz ?_
  simp only [go_sem]
  rw [stateErr, if_pos (by simpa using hc)]
 have hck : ¬ checkM m ≠ 0 := by simpa using hc
 refine EvC.skip ?_
 refine EvC.seq ?_
 refine EvC.g ?_ (h := by simp only [go_sem, Mach.cells] <;> rfl)
 refine EvC.cond (by simp only [go_sem] <;> rfl) (fun hc => ?_) (fun hc => ?_)
 ·have h : s < 0 ∨ (m.rows.length : Int) ≤ s := by by_cases h1 : s < 0 <;> simp_all
  refine EvC.a ?_
  refine EvC.rz ?_
  simp only [go_sem]
  rw [stateErr, if_neg hck, if_pos (by simpa using h)]
 have h : ¬ (s < 0 ∨ (m.rows.length : Int) ≤ s) := by by_cases h1 : s < 0 <;> simp_all
 refine EvC.skip ?_
 refine EvC.a ?_
 refine EvC.rz ?_
 simp only [go_sem]
 rw [stateErr, if_neg hck, if_neg (by simpa using h)]
def afterR (m : Mach) : Int → List Int → Int
 | s, [] => s
 | s, a :: w => afterR m (stepR m s a).1 w
theorem run75_is {m : Mach} (hv : Valid m) (s : Int) (hs : s < m.rows.length) (hs0 : -1 ≤ s) (nl : Bool) (w : List Int) (c : Cp) (hw : ∀ a ∈ w, 0 ≤ a ∧ a < m.ins) (hl : w.length < 1000000) :
  PureIs prog 113 [.ag m.cells, .sc (.int .i64 s), .sl nl (w.map intC) c] (.tu [.sl false ((runR m s w).map intC) .unk, .sc (.int .i64 (afterR m s w))]) := by
 refine PureIs.of1 4 [6, 7, 8, 9, 10, 11, 15, 16, 17, 18, 24] func113 ntmps113 results113 fun _ => ?_
 refine EvC.a ?_ (by simp only [go_sem, Mach.cells] <;> rfl)
 refine EvC.z 0 ?_
 refine EvC.a ?_ (hok := by simp [room_eq]; omega)
 refine EvC.seq ?_
 refine EvC.a ?_
 refine EvC.block ?_
 have hz : ∀ n : Nat, List.replicate n [AV.sc (.int .i64 0)] = (List.replicate n (0 : Int)).map intC := fun n => by simp [intC]
 refine EvC.loopS (σ := Nat × Int × List Int × List Int) (fun g => ⟨[(1, .sc (.int .i64 g.2.1)), (3, .ia m.cells), (8, .tl 0 w.length false), (15, .sl nl (w.map intC) c), (16, .sc (.int .i64 w.length)), (17, .sc (.int .i64 g.1))], [], [(0, .arr 1 (g.2.2.2.map intC) false)], 1⟩) (fun g => w.length - g.1)
  (fun g => g.1 ≤ w.length ∧ g.2.2.1.length = g.1 ∧ g.2.1 < m.rows.length ∧ -1 ≤ g.2.1 ∧ runR m s w = g.2.2.1 ++ runR m g.2.1 (w.drop g.1) ∧ afterR m s w = afterR m g.2.1 (w.drop g.1) ∧ g.2.2.2 = g.2.2.1 ++ List.replicate (w.length - g.1) 0) [1, 3, 8, 15, 16, 17] 1 ?_ ?_
 ·refine ⟨[(5, 0)], (0, s, [], List.replicate w.length 0), rfl, (by simp only [go_sem, Mach.cells, hz, Int.toNat_natCast] <;> rfl), Nat.zero_le _, rfl, hs, hs0, rfl, rfl, by simp⟩
 rintro ⟨i, t, os, out⟩ ⟨h1, h2, h3, h4, h5, h6, ho⟩
 simp only at h1 h2 h3 h4 h5 h6 ho
 have hlen : out.length = w.length := by rw [ho]; simp; omega
 refine EvC.a ?_
 refine EvC.seq ?_
 refine EvC.cond (by simp only [go_sem] <;> rfl) (fun hc => ?_) (fun hc => ?_)
 rotate_left
 ·refine EvC.exit ?_
  obtain rfl : i = w.length := by have : ¬ i < w.length := by simpa using hc
                                  omega
  rw [List.drop_length] at h5 h6
  refine EvC.frz 0 (by simp only [go_sem, hlen, List.length_map] <;> rfl) ?_
  refine EvC.a ?_
  refine EvC.rz ?_
  simp only [go_sem]
  rw [h5, h6, ho]
  simp [runR, afterR]
 have hi : i < w.length := by simpa using hc
 have he : w[i]? = some w[i] := List.getElem?_eq_getElem hi
 have hd : w.drop i = w[i] :: w.drop (i + 1) := List.drop_eq_getElem_cons hi
 have ha := hw _ (List.getElem_mem hi)
 generalize w[i] = a at he hd ha
 rw [hd, runR] at h5
 rw [hd, afterR] at h6
 refine EvC.skip ?_
 refine EvC.seq ?_
 refine EvC.block ?_
 refine EvC.a ?_ (by simp only [go_sem, he, intC] <;> rfl)
 refine EvC.k1 ?_ (c1 := .ca none_is)
 refine EvC.seq ?_
 refine EvC.a ?_
 have hr : w.length - i = (w.length - (i + 1)) + 1 := by omega
 have hset' : ∀ y : Int, out.set i y = (os ++ [y]) ++ List.replicate (w.length - (i + 1)) 0 := fun y => by
  rw [ho, hr, List.replicate_succ, ← h2, set_mid]
  simp
 have hset : ∀ y : Int, (out.map intC).set i [.sc (.int .i64 y)] = (out.set i y).map intC := fun y => by
  rw [show [AV.sc (.int .i64 y)] = intC y from rfl, ← List.map_set]
 have hge : out[i]? = some 0 := by
  rw [ho, List.getElem?_append_right (by omega), hr, h2]; simp
 have hlt := stepR_lt hv h3 ha
 have hge1 : -1 ≤ (stepR m t a).1 := by
  by_cases h0 : 0 ≤ t
  ·obtain ⟨r, e, _, _, k3, k4⟩ := stepR_get hv h0 h3 ha
   rw [k3]; unfold fitsR at k4; simp at k4; omega
  ·rw [stepR, if_pos (by omega)]; simp
 refine EvC.cond (by simp only [go_sem] <;> rfl) (fun hc => ?_) (fun hc => ?_)
 ·have hc : ¬ t = -1 := by simpa using hc
  obtain ⟨r, e, k1, k2, k3, k4⟩ := stepR_get hv (show 0 ≤ t by omega) h3 ha
  have htl : t.toNat < m.rows.length := by omega
  refine EvC.b ?_ (by simp only [go_sem, Mach.cells, k1, rowC, k2, edgeC] <;> rfl) (by simp; omega)
  refine EvC.dL mixed ?_ (h := by simp only [go_sem, hset, hge, intC] <;> rfl) (hok := by simp [hlen]; omega)
  refine EvC.b ?_ (hok := by exact inI64_of (by omega) (by omega))
  rw [k3] at h5 h6 hlt hge1
  refine ⟨[(0, 0)], (i + 1, e.1, os ++ [e.2], out.set i e.2), rfl, (by simp only [go_sem, Mach.cells] <;> rfl), ⟨by simp only; omega, by simp [h2], hlt, hge1, ?_, h6, hset' _⟩, by simp only; omega⟩
  simp only [h5, List.append_assoc]; rfl
 have hc : t = -1 := by simpa using hc
 refine EvC.skip ?_
 refine EvC.dL mixed ?_ (h := by simp only [go_sem, hset, hge, intC] <;> rfl) (hok := by simp [hlen]; omega)
 refine EvC.b ?_ (hok := by exact inI64_of (by omega) (by omega))
 have k3 : stepR m t a = (-1, -1) := by rw [stepR, if_pos (by omega)]
 rw [k3] at h5 h6 hlt hge1
 refine ⟨[(0, 0)], (i + 1, -1, os ++ [-1], out.set i (-1)), rfl, (by simp only [go_sem, Mach.cells] <;> rfl), ⟨by simp only; omega, by simp [h2], hlt, hge1, ?_, h6, hset' _⟩, by simp only; omega⟩
 simp only [h5, List.append_assoc]; rfl
theorem runR_len (m : Mach) : ∀ (s : Int) (w : List Int), (runR m s w).length = w.length
 | _, [] => rfl
 | s, a :: w => by simp only [runR, List.length_cons]; rw [runR_len m _ w]
theorem wordErr_zero {n : Int} {w : List Int} (h : wordErr n w = 0) : ∀ a ∈ w, 0 ≤ a ∧ a < n := by
 unfold wordErr at h
 split at h
 ·cases h
 ·split at h
  ·cases h
  ·rename_i h2
   simp only [not_or, Bool.not_eq_true, List.any_eq_false] at h2
   intro a ha
   have := h2.2 a ha
   simp at this; omega
theorem checkM_of {m : Mach} (hv : Valid m) : checkM m = 0 := by
 have h1 := hv.ins
 have h2 := hv.outs
 have h3 := hv.rows
 have h4 : m.rows.all (rowOk m) = true := by
  rw [List.all_eq_true]
  intro r hr
  obtain ⟨k1, k2⟩ := hv.row r hr
  simp only [rowOk, Bool.and_eq_true, decide_eq_true_eq, Bool.not_eq_true', List.any_eq_false]
  exact ⟨k1, fun e he => by simp [k2 e he]⟩
 rw [checkM, if_neg (by omega), if_neg (by omega), if_pos h4]
theorem stateErr_of {m : Mach} {l : List Int} (hv : Valid m) (h : ∀ s ∈ l, 0 ≤ s ∧ s < m.rows.length) : stateErr m l = 0 := by
 have h2 : ¬ l.any (fun x => decide (x < 0) || decide ((m.rows.length : Int) ≤ x)) = true := by
  simp only [Bool.not_eq_true, List.any_eq_false]
  exact fun s hs => by have := h s hs; simp; omega
 rw [stateErr, if_neg (by simp [checkM_of hv]), if_neg h2]
theorem Valid.small {m : Mach} (hv : Valid m) : ∀ r ∈ m.rows, r.2.length < 1000000 := fun r hr => by
 have := (hv.row r hr).1
 have := hv.ins
 omega
theorem run52_is {m : Mach} (hv : Valid m) (s : Int) (hs : 0 ≤ s ∧ s < m.rows.length) (nl : Bool) (w : List Int) (c : Cp) (hw : wordErr m.ins w = 0) (hl : w.length < 1000000) :
  PureIs prog 89 [.ag m.cells, .sc (.int .i64 s), .sl nl (w.map intC) c] (.tu [.sl false ((runR m s w).map intC) .unk, .sc (.int .i64 0)]) := by
 refine PureIs.of1 4 [6, 7, 8, 9, 10, 16, 23] func89 ntmps89 results89 fun _ => ?_
 have h1 : stateErr m [s] = 0 := stateErr_of hv (by simpa using hs)
 refine EvC.a ?_ (by simp only [go_sem, Mach.cells] <;> rfl)
 refine EvC.z 0 ?_
 refine EvC.seq ?_
 refine EvC.k1 ?_ (h1 := by simp only [go_sem, Mach.cells] <;> rfl) (c1 := .ca (mstate_is m hv.small s)) (h2 := by simp only [go_sem, h1] <;> rfl)
 refine EvC.a ?_
 refine EvC.cs ?_
 refine EvC.seq ?_
 refine EvC.k1 ?_ (h1 := by simp only [go_sem, Mach.cells] <;> rfl) (c1 := .ca (wordCheck_is nl w c m.ins hl)) (h2 := by simp only [go_sem, hw] <;> rfl)
 refine EvC.a ?_
 refine EvC.cs ?_
 refine EvC.k1 ?_ (h1 := by simp only [go_sem, Mach.cells] <;> rfl) (c1 := .ca (run75_is hv s hs.2 (by omega) nl w c (wordErr_zero hw) hl))
 refine EvC.a ?_
 refine EvC.rz ?_
 simp only [go_sem]
structure FA where
 kind : Int
 state : Int
 input : Int
 to : Int
 at' : Int
 out : Int
def FA.cells (f : FA) : List AV := [.sc (.int .i64 f.kind), .sc (.int .i64 f.state), .sc (.int .i64 f.input), .sc (.int .i64 f.to), .sc (.int .i64 f.at'), .sc (.int .i64 f.out)]
def inN (i n : Int) : Bool := decide (0 ≤ i) && decide (i < n)
def definedB (m : Mach) (s i : Int) : Bool := decide (0 ≤ s) && (decide (s < m.rows.length) && (decide (0 ≤ i) && (decide (i < m.ins) && !decide ((stepM m s i).1 = -1))))
def plainB (f : FA) : Bool :=
 if f.kind = 0 then decide (f.to = 0) && decide (f.at' = 0)
 else if f.kind = 1 then decide (f.at' = 0) && decide (f.out = 0)
 else if f.kind = 2 then decide (f.to = 0) && (decide (f.at' = 0) && decide (f.out = 0))
 else if f.kind = 3 then decide (f.at' = 0) && decide (f.out = 0)
 else if f.kind = 4 then decide (f.to = 0) else false
theorem within85_is (i n : Int) : PureIs prog 78 [.sc (.int .i64 i), .sc (.int .i64 n)] (.sc (.bool (inN i n))) := by
 refine PureIs.of1 2 [4] func78 ntmps78 results78 fun _ => ?_
 refine EvC.a ?_
 refine EvC.g ?_
 refine EvC.rz ?_
 simp only [go_sem]
 unfold inN
 by_cases h : 0 ≤ i <;> simp [h]
theorem stepM_get {m : Mach} (hv : Valid m) {s i : Int} (hs : 0 ≤ s ∧ s < m.rows.length) (hi : 0 ≤ i ∧ i < m.ins) :
  ∃ r, m.rows[s.toNat]? = some r ∧ r.2[i.toNat]? = some (stepM m s i) ∧ fitsR m.rows.length m.outs (stepM m s i).1 (stepM m s i).2 = true := by
 obtain ⟨r, e, h1, h2, h3, h4⟩ := stepR_get hv hs.1 hs.2 hi
 have : stepR m s i = stepM m s i := by rw [stepR, if_neg (by omega)]; rfl
 rw [← h3, this] at h2 h4
 exact ⟨r, h1, h2, h4⟩
theorem defined84_is {m : Mach} (hv : Valid m) (s i : Int) : PureIs prog 77 [.ag m.cells, .sc (.int .i64 s), .sc (.int .i64 i)] (.sc (.bool (definedB m s i))) := by
 refine PureIs.of1 4 [6] func77 ntmps77 results77 fun _ => ?_
 refine EvC.a ?_ (by simp only [go_sem, Mach.cells] <;> rfl)
 refine EvC.z 0 ?_
 have hn1 := hv.rows
 have hi1 := hv.ins
 cases h1 : m.rows[s.toNat]? with
 | none =>
   have hs : m.rows.length ≤ s.toNat := List.getElem?_eq_none_iff.1 h1
   have d1 : decide (0 ≤ s) = true := decide_eq_true (by omega)
   have d2 : decide (s < (m.rows.length : Int)) = false := decide_eq_false (by omega)
   have hres : definedB m s i = false := by simp [definedB, d1, d2]
   rw [hres]
   apply EvC.s1
   ·apply Tr.run
    ·simp only [go_sem, Mach.cells, List.length_map, h1, d1, d2] <;> rfl
    ·simp
    apply Tr.cons
    ·exact .skipv (.ia [.sl false [] .unk]) rfl rfl (by simp only [go_sem] <;> rfl) (by simp only [go_sem] <;> rfl)
    apply Tr.run
    ·simp only [go_sem, Mach.cells, List.length_map, h1, d1, d2] <;> rfl
    ·simp
    apply Tr.cons
    ·exact .skipv (.ia [.sc (.int .i64 0), .sc (.int .i64 0)]) rfl rfl (by simp only [go_sem] <;> rfl) (by simp only [go_sem] <;> rfl)
    apply Tr.done
    ·simp only [go_sem] <;> rfl
    ·simp
   refine EvC.rz ?_
   simp only [go_sem]
 | some r =>
   have hsl : s.toNat < m.rows.length := (List.getElem?_eq_some_iff.1 h1).1
   have hrl := (hv.row _ (List.mem_of_getElem? h1)).1
   cases h2 : r.2[i.toNat]? with
   | none =>
     have hi : r.2.length ≤ i.toNat := List.getElem?_eq_none_iff.1 h2
     have d3 : decide (0 ≤ i) = true := decide_eq_true (by omega)
     have d4 : decide (i < m.ins) = false := decide_eq_false (by omega)
     have hres : definedB m s i = false := by simp [definedB, d3, d4]
     rw [hres]
     by_cases h0 : 0 ≤ s
     ·have d1 : decide (0 ≤ s) = true := decide_eq_true h0
      have d2 : decide (s < (m.rows.length : Int)) = true := decide_eq_true (by omega)
      apply EvC.s1
      ·apply Tr.run
       ·simp only [go_sem, Mach.cells, rowC, List.length_map, h1, h2, d1, d2, d3, d4] <;> rfl
       ·simp
       apply Tr.cons
       ·exact .skipv (.ia [.sc (.int .i64 0), .sc (.int .i64 0)]) rfl rfl (by simp only [go_sem] <;> rfl) (by simp only [go_sem] <;> rfl)
       apply Tr.done
       ·simp only [go_sem] <;> rfl
       ·simp
      refine EvC.rz ?_
      simp only [go_sem]
     ·have d1 : decide (0 ≤ s) = false := decide_eq_false h0
      apply EvC.s1
      ·apply Tr.run
       ·simp only [go_sem, Mach.cells, rowC, List.length_map, h1, h2, d1, d3, d4] <;> rfl
       ·simp
       apply Tr.cons
       ·exact .skipv (.ia [.sc (.int .i64 0), .sc (.int .i64 0)]) rfl rfl (by simp only [go_sem] <;> rfl) (by simp only [go_sem] <;> rfl)
       apply Tr.done
       ·simp only [go_sem] <;> rfl
       ·simp
      refine EvC.rz ?_
      simp only [go_sem]
   | some e =>
     have he : stepM m s i = e := by rw [stepM, h1]; simp [h2]
     unfold definedB
     rw [he]
     refine EvC.g ?_ (h := by simp only [go_sem, Mach.cells, h1, h2, rowC, edgeC, List.length_map] <;> rfl) (hok := by by_cases k1 : 0 ≤ s <;> by_cases k3 : 0 ≤ i <;> simp [k1, k3])
     refine EvC.rz ?_
     simp only [go_sem]
     by_cases k1 : 0 ≤ s <;> by_cases k2 : s < m.rows.length <;> by_cases k3 : 0 ≤ i <;> by_cases k4 : i < m.ins <;> simp [k1, k2, k3, k4]
theorem kind_cases (k : Int) : (k = 0 ∨ k = 1 ∨ k = 2 ∨ k = 3 ∨ k = 4) ∨ inN k 5 = false := by
 by_cases h : 0 ≤ k ∧ k < 5
 ·exact .inl (by omega)
 ·refine .inr ?_
  unfold inN
  rw [Bool.and_eq_false_iff]
  by_cases h1 : 0 ≤ k
  ·exact .inr (decide_eq_false fun h2 => h ⟨h1, h2⟩)
  ·exact .inl (decide_eq_false h1)
theorem plain83_is (f : FA) : PureIs prog 76 [.ag f.cells] (.sc (.bool (plainB f))) := by
 obtain ⟨k, s, i, t, a, o⟩ := f
 have q := within85_is k 5
 refine PureIs.of1 4 [7] func76 ntmps76 results76 fun _ => ?_
 refine EvC.a ?_ (by simp only [go_sem, FA.cells] <;> rfl)
 refine EvC.z 0 ?_
 refine EvC.seq ?_
 rcases kind_cases k with hk | hk
 rotate_left
 ·rw [hk] at q
  have hres : plainB ⟨k, s, i, t, a, o⟩ = false := by
   unfold inN at hk
   rw [Bool.and_eq_false_iff, decide_eq_false_iff_not, decide_eq_false_iff_not] at hk
   unfold plainB
   simp only
   rw [if_neg (by omega), if_neg (by omega), if_neg (by omega), if_neg (by omega), if_neg (by omega)]
  rw [hres]
  refine EvC.k1 ?_ (c1 := .ca q)
  refine EvC.ct ?_
  refine EvC.a ?_
  refine EvC.rz ?_
  simp only [go_sem]
 have q5 : inN k 5 = true := by unfold inN; simp; omega
 rw [q5] at q
 have n2 : (2 : Int).toNat = 2 := rfl
 have n3 : (3 : Int).toNat = 3 := rfl
 have n4 : (4 : Int).toNat = 4 := rfl
 have n1 : (1 : Int).toNat = 1 := rfl
 have n0 : (0 : Int).toNat = 0 := rfl
 refine EvC.k1 ?_ (c1 := .ca q)
 refine EvC.cs ?_
 rcases hk with rfl | rfl | rfl | rfl | rfl
 all_goals
  refine EvC.a ?_ (by simp only [go_sem, kindTab, kindN, n0, n1, n2, n3, n4, Nat.reduceMul] <;> rfl)
  refine EvC.g ?_
  refine EvC.rz ?_
  simp only [go_sem]
  unfold plainB
  by_cases e1 : t = 0 <;> by_cases e2 : a = 0 <;> by_cases e3 : o = 0 <;> simp [e1, e2, e3]
def kindB (m : Mach) (f : FA) : Bool :=
 if f.kind = 0 then inN f.out m.outs && !decide (f.out = (stepM m f.state f.input).2)
 else if f.kind = 1 then inN f.to m.rows.length && !decide (f.to = (stepM m f.state f.input).1)
 else if f.kind = 2 then true
 else if f.kind = 3 then inN f.to m.rows.length
 else inN f.out m.outs && (definedB m (stepM m f.state f.input).1 f.at' && !decide (f.out = (stepM m (stepM m f.state f.input).1 f.at').2))
def faultB (m : Mach) (f : FA) : Bool := plainB f && (definedB m f.state f.input && kindB m f)
def checkF (m : Mach) (f : FA) : Int := if faultB m f = true then (if 3 ≤ f.kind ∧ m.rows.length = 64 then 3 else 0) else 1
theorem definedB_iff {m : Mach} {s i : Int} : definedB m s i = true ↔ (0 ≤ s ∧ s < m.rows.length) ∧ (0 ≤ i ∧ i < m.ins) ∧ (stepM m s i).1 ≠ -1 := by
 unfold definedB
 simp only [Bool.and_eq_true, decide_eq_true_eq, Bool.not_eq_true', decide_eq_false_iff_not]
 constructor
 ·rintro ⟨a, b, c, d, e⟩; exact ⟨⟨a, b⟩, ⟨c, d⟩, e⟩
 ·rintro ⟨⟨a, b⟩, ⟨c, d⟩, e⟩; exact ⟨a, b, c, d, e⟩
theorem step_in {m : Mach} (hv : Valid m) {s i : Int} (hd : definedB m s i = true) : ∃ r, m.rows[s.toNat]? = some r ∧ r.2[i.toNat]? = some (stepM m s i) ∧ (0 ≤ (stepM m s i).1 ∧ (stepM m s i).1 < m.rows.length) := by
 obtain ⟨h1, h2, h3⟩ := definedB_iff.1 hd
 obtain ⟨r, k1, k2, k3⟩ := stepM_get hv h1 h2
 refine ⟨r, k1, k2, ?_⟩
 unfold fitsR at k3
 simp only [Bool.or_eq_true, Bool.and_eq_true, decide_eq_true_eq] at k3
 omega
theorem plainB_kind {f : FA} (h : plainB f = true) : f.kind = 0 ∨ f.kind = 1 ∨ f.kind = 2 ∨ f.kind = 3 ∨ f.kind = 4 := by
 unfold plainB at h
 by_cases h0 : f.kind = 0
 ·exact .inl h0
 by_cases h1 : f.kind = 1
 ·exact .inr (.inl h1)
 by_cases h2 : f.kind = 2
 ·exact .inr (.inr (.inl h2))
 by_cases h3 : f.kind = 3
 ·exact .inr (.inr (.inr (.inl h3)))
 by_cases h4 : f.kind = 4
 ·exact .inr (.inr (.inr (.inr h4)))
 simp [h0, h1, h2, h3, h4] at h
theorem plainB_at {f : FA} (h : plainB f = true) (hk : f.kind ≠ 4) : f.at' = 0 := by
 unfold plainB at h
 by_cases h0 : f.kind = 0
 ·simp [h0] at h; exact h.2
 by_cases h1 : f.kind = 1
 ·simp [h1] at h; exact h.1
 by_cases h2 : f.kind = 2
 ·simp [h2] at h; exact h.2.1
 by_cases h3 : f.kind = 3
 ·simp [h3] at h; exact h.1
 simp [h0, h1, h2, h3, hk] at h
set_option maxHeartbeats 4000000 in
theorem check78_is {m : Mach} (hv : Valid m) (hc0 : checkM m = 0) (f : FA) : PureIs prog 46 [.ag m.cells, .ag f.cells] (.sc (.int .i64 (checkF m f))) := by
 have q0 := check_is m fun r hr => by have := (hv.row r hr).1; have := hv.ins; omega
 rw [hc0] at q0
 obtain ⟨kd, s, i, t, a, o⟩ := f
 refine PureIs.of1 8 [11, 24, 74, 117, 126] func46 ntmps46 results46 fun _ => ?_
 refine EvC.a ?_ (by simp only [go_sem, Mach.cells, FA.cells] <;> rfl)
 refine EvC.z 0 ?_
 refine EvC.z 1 ?_
 refine EvC.seq ?_
 refine EvC.k1 ?_ (h1 := by simp only [go_sem, Mach.cells] <;> rfl) (c1 := .ca q0)
 refine EvC.a ?_
 refine EvC.cs ?_
 refine EvC.seq ?_
 have qp := plain83_is ⟨kd, s, i, t, a, o⟩
 cases hp : plainB ⟨kd, s, i, t, a, o⟩ with
 | false =>
   rw [hp] at qp
   have hres : checkF m ⟨kd, s, i, t, a, o⟩ = 1 := by unfold checkF faultB; rw [hp]; rfl
   rw [hres]
   apply EvC.s1
   ·apply Tr.run
    ·simp only [go_sem, FA.cells, Mach.cells] <;> rfl
    ·simp
    apply Tr.cons
    ·exact .ca (qp)
    apply Tr.run
    ·simp only [go_sem, FA.cells, Mach.cells] <;> rfl
    ·simp
    apply Tr.cons
    ·exact .skipv (.sc (.bool false)) rfl rfl (by simp only [go_sem] <;> rfl) (by simp only [go_sem] <;> rfl)
    apply Tr.done
    ·simp only [go_sem] <;> rfl
    ·simp
   refine EvC.ct ?_
   refine EvC.a ?_
   refine EvC.rz ?_
   simp only [go_sem]
 | true =>
 rw [hp] at qp
 have qd := defined84_is hv s i
 cases hd : definedB m s i with
 | false =>
   rw [hd] at qd
   have hres : checkF m ⟨kd, s, i, t, a, o⟩ = 1 := by unfold checkF faultB; simp only; rw [hp, hd]; rfl
   rw [hres]
   refine EvC.k2 ?_ (h1 := by simp only [go_sem, FA.cells, Mach.cells] <;> rfl) (c1 := .ca qp) (h2 := by simp only [go_sem, FA.cells, Mach.cells] <;> rfl) (c2 := .cg qd)
   refine EvC.ct ?_
   refine EvC.a ?_
   refine EvC.rz ?_
   simp only [go_sem]
 | true =>
 rw [hd] at qd
 have hck : checkF m ⟨kd, s, i, t, a, o⟩ = if kindB m ⟨kd, s, i, t, a, o⟩ = true then (if 3 ≤ kd ∧ m.rows.length = 64 then 3 else 0) else 1 := by unfold checkF faultB; simp only; rw [hp, hd]; rfl
 rw [hck]
 clear hck
 refine EvC.k2 ?_ (h1 := by simp only [go_sem, FA.cells, Mach.cells] <;> rfl) (c1 := .ca qp) (h2 := by simp only [go_sem, FA.cells, Mach.cells] <;> rfl) (c2 := .cg qd)
 refine EvC.cs ?_
 obtain ⟨r, h1, h2, he⟩ := step_in hv hd
 obtain ⟨b1, b2, _⟩ := definedB_iff.1 hd
 have hkd := plainB_kind hp
 have hat : kd ≠ 4 → a = 0 := fun h => plainB_at hp h
 simp only at hkd
 unfold kindB
 simp only
 generalize stepM m s i = e at *
 have h3 : m.rows[e.1.toNat]? = some (m.rows[e.1.toNat]'(by omega)) := List.getElem?_eq_getElem (by omega)
 have hrl := (hv.row _ (List.getElem_mem (show e.1.toNat < m.rows.length by omega))).1
 generalize m.rows[e.1.toNat]'(by omega) = r3 at h3 hrl
 have hsm : stepM m e.1 a = (r3.2[a.toNat]?).getD (-1, -1) := by rw [stepM, h3]; rfl
 have hi1 := hv.ins
 have hro1 := hv.rows
 refine EvC.d mixed ?_ (h := by simp only [go_sem, h1, h2, rowC, edgeC, List.length_map] <;> rfl) (hok := by simp; try omega)
 refine EvC.z 30 ?_
 have n2 : (2 : Int).toNat = 2 := rfl
 have n3 : (3 : Int).toNat = 3 := rfl
 have n4 : (4 : Int).toNat = 4 := rfl
 have n1 : (1 : Int).toNat = 1 := rfl
 have n0 : (0 : Int).toNat = 0 := rfl
 have qt := within85_is t m.rows.length
 have qo := within85_is o m.outs
 have d64 : decide ((m.rows.length : Int) = 64) = decide (m.rows.length = 64) := decide_eq_decide.2 (by omega)
 rcases hkd with rfl | rfl | rfl | rfl | rfl
 ·
  obtain rfl := hat (by decide)
  have h4 : r3.2[0]? = some (r3.2[0]'(by omega)) := List.getElem?_eq_getElem (by omega)
  generalize r3.2[0]'(by omega) = e4 at h4
  rw [if_pos rfl]
  refine EvC.a ?_ (by simp only [go_sem, kindTab, kindN, n0, n1, n2, n3, n4, Nat.reduceMul] <;> rfl)
  refine EvC.z 36 ?_
  refine EvC.seq ?_
  cases hq : inN o m.outs with
  | false =>
    rw [hq] at qo
    apply EvC.s1
    ·apply Tr.run
     ·simp only [go_sem, FA.cells, Mach.cells, List.length_map] <;> rfl
     ·simp
     apply Tr.cons
     ·exact .skipv (.sc (.bool false)) rfl rfl (by simp only [go_sem] <;> rfl) (by simp only [go_sem] <;> rfl)
     apply Tr.run
     ·simp only [go_sem, FA.cells, Mach.cells, List.length_map] <;> rfl
     ·simp
     apply Tr.cons
     ·exact .cg (qo)
     apply Tr.run
     ·simp only [go_sem, FA.cells, Mach.cells, List.length_map] <;> rfl
     ·simp
     apply Tr.cons
     ·exact .skipv (.sc (.bool false)) rfl rfl (by simp only [go_sem] <;> rfl) (by simp only [go_sem] <;> rfl)
     apply Tr.done
     ·simp only [go_sem] <;> rfl
     ·simp
    refine EvC.ct ?_
    refine EvC.a ?_
    refine EvC.rz ?_
    simp only [go_sem]
  | true =>
  rw [hq] at qo
  apply EvC.s1
  ·apply Tr.run
   ·simp only [go_sem, FA.cells, Mach.cells, List.length_map] <;> rfl
   ·simp
   apply Tr.cons
   ·exact .skipv (.sc (.bool false)) rfl rfl (by simp only [go_sem] <;> rfl) (by simp only [go_sem] <;> rfl)
   apply Tr.run
   ·simp only [go_sem, FA.cells, Mach.cells, List.length_map] <;> rfl
   ·simp
   apply Tr.cons
   ·exact .cg (qo)
   apply Tr.run
   ·simp only [go_sem, FA.cells, Mach.cells, List.length_map] <;> rfl
   ·simp
   apply Tr.cons
   ·exact .skipv (.sc (.bool false)) rfl rfl (by simp only [go_sem] <;> rfl) (by simp only [go_sem] <;> rfl)
   apply Tr.done
   ·simp only [go_sem] <;> rfl
   ·simp
  refine EvC.cs ?_
  refine EvC.seq ?_
  refine EvC.d mixed ?_ (h := by simp only [go_sem, h3, h4, rowC, edgeC, n0, List.length_map] <;> rfl) (hok := by simp; try omega)
  refine EvC.cond (by simp only [go_sem] <;> rfl) (fun hc => ?_) (fun hc => ?_)
  ·have hc' : o = e.2 := by simpa using hc
   refine EvC.a ?_
   refine EvC.rz ?_
   simp only [go_sem]
   simp [hc']
  have hc' : ¬ o = e.2 := by simpa using hc
  refine EvC.skip ?_
  refine EvC.seq ?_
  refine EvC.g ?_ (h := by simp only [go_sem, List.length_map] <;> rfl)
  refine EvC.cs ?_
  refine EvC.a ?_
  refine EvC.rz ?_
  simp only [go_sem]
  simp [hc']
 ·
  obtain rfl := hat (by decide)
  have h4 : r3.2[0]? = some (r3.2[0]'(by omega)) := List.getElem?_eq_getElem (by omega)
  generalize r3.2[0]'(by omega) = e4 at h4
  rw [if_neg (show ¬ (1 : Int) = 0 by decide), if_pos (show (1 : Int) = 1 from rfl)]
  refine EvC.a ?_ (by simp only [go_sem, kindTab, kindN, n0, n1, n2, n3, n4, Nat.reduceMul] <;> rfl)
  refine EvC.z 36 ?_
  refine EvC.seq ?_
  cases hq : inN t m.rows.length with
  | false =>
    rw [hq] at qt
    apply EvC.s1
    ·apply Tr.run
     ·simp only [go_sem, FA.cells, Mach.cells, List.length_map] <;> rfl
     ·simp
     apply Tr.cons
     ·exact .cg (qt)
     apply Tr.run
     ·simp only [go_sem, FA.cells, Mach.cells, List.length_map] <;> rfl
     ·simp
     apply Tr.cons
     ·exact .skipv (.sc (.bool false)) rfl rfl (by simp only [go_sem] <;> rfl) (by simp only [go_sem] <;> rfl)
     apply Tr.run
     ·simp only [go_sem, FA.cells, Mach.cells, List.length_map] <;> rfl
     ·simp
     apply Tr.cons
     ·exact .skipv (.sc (.bool false)) rfl rfl (by simp only [go_sem] <;> rfl) (by simp only [go_sem] <;> rfl)
     apply Tr.done
     ·simp only [go_sem] <;> rfl
     ·simp
    refine EvC.ct ?_
    refine EvC.a ?_
    refine EvC.rz ?_
    simp only [go_sem]
  | true =>
  rw [hq] at qt
  apply EvC.s1
  ·apply Tr.run
   ·simp only [go_sem, FA.cells, Mach.cells, List.length_map] <;> rfl
   ·simp
   apply Tr.cons
   ·exact .cg (qt)
   apply Tr.run
   ·simp only [go_sem, FA.cells, Mach.cells, List.length_map] <;> rfl
   ·simp
   apply Tr.cons
   ·exact .skipv (.sc (.bool false)) rfl rfl (by simp only [go_sem] <;> rfl) (by simp only [go_sem] <;> rfl)
   apply Tr.run
   ·simp only [go_sem, FA.cells, Mach.cells, List.length_map] <;> rfl
   ·simp
   apply Tr.cons
   ·exact .skipv (.sc (.bool false)) rfl rfl (by simp only [go_sem] <;> rfl) (by simp only [go_sem] <;> rfl)
   apply Tr.done
   ·simp only [go_sem] <;> rfl
   ·simp
  refine EvC.cs ?_
  refine EvC.seq ?_
  refine EvC.d mixed ?_ (h := by simp only [go_sem, h3, h4, rowC, edgeC, n0, List.length_map] <;> rfl) (hok := by simp; try omega)
  refine EvC.cond (by simp only [go_sem] <;> rfl) (fun hc => ?_) (fun hc => ?_)
  ·have hc' : t = e.1 := by simpa using hc
   refine EvC.a ?_
   refine EvC.rz ?_
   simp only [go_sem]
   simp [hc']
  have hc' : ¬ t = e.1 := by simpa using hc
  refine EvC.skip ?_
  refine EvC.seq ?_
  refine EvC.g ?_ (h := by simp only [go_sem, List.length_map] <;> rfl)
  refine EvC.cs ?_
  refine EvC.a ?_
  refine EvC.rz ?_
  simp only [go_sem]
  simp [hc']
 ·
  obtain rfl := hat (by decide)
  have h4 : r3.2[0]? = some (r3.2[0]'(by omega)) := List.getElem?_eq_getElem (by omega)
  generalize r3.2[0]'(by omega) = e4 at h4
  rw [if_neg (show ¬ (2 : Int) = 0 by decide), if_neg (show ¬ (2 : Int) = 1 by decide), if_pos (show (2 : Int) = 2 from rfl)]
  refine EvC.a ?_ (by simp only [go_sem, kindTab, kindN, n0, n1, n2, n3, n4, Nat.reduceMul] <;> rfl)
  refine EvC.z 36 ?_
  refine EvC.seq ?_
  apply EvC.s1
  ·apply Tr.run
   ·simp only [go_sem, FA.cells, Mach.cells, List.length_map] <;> rfl
   ·simp
   apply Tr.cons
   ·exact .skipv (.sc (.bool false)) rfl rfl (by simp only [go_sem] <;> rfl) (by simp only [go_sem] <;> rfl)
   apply Tr.run
   ·simp only [go_sem, FA.cells, Mach.cells, List.length_map] <;> rfl
   ·simp
   apply Tr.cons
   ·exact .skipv (.sc (.bool false)) rfl rfl (by simp only [go_sem] <;> rfl) (by simp only [go_sem] <;> rfl)
   apply Tr.run
   ·simp only [go_sem, FA.cells, Mach.cells, List.length_map] <;> rfl
   ·simp
   apply Tr.cons
   ·exact .skipv (.sc (.bool false)) rfl rfl (by simp only [go_sem] <;> rfl) (by simp only [go_sem] <;> rfl)
   apply Tr.done
   ·simp only [go_sem] <;> rfl
   ·simp
  refine EvC.cs ?_
  refine EvC.seq ?_
  refine EvC.d mixed ?_ (h := by simp only [go_sem, h3, h4, rowC, edgeC, n0, List.length_map] <;> rfl) (hok := by simp; try omega)
  refine EvC.cs ?_
  refine EvC.seq ?_
  refine EvC.g ?_ (h := by simp only [go_sem, List.length_map] <;> rfl)
  refine EvC.cs ?_
  refine EvC.a ?_
  refine EvC.rz ?_
  simp only [go_sem]
  simp
 ·
  obtain rfl := hat (by decide)
  have h4 : r3.2[0]? = some (r3.2[0]'(by omega)) := List.getElem?_eq_getElem (by omega)
  generalize r3.2[0]'(by omega) = e4 at h4
  rw [if_neg (show ¬ (3 : Int) = 0 by decide), if_neg (show ¬ (3 : Int) = 1 by decide), if_neg (show ¬ (3 : Int) = 2 by decide), if_pos (show (3 : Int) = 3 from rfl)]
  refine EvC.a ?_ (by simp only [go_sem, kindTab, kindN, n0, n1, n2, n3, n4, Nat.reduceMul] <;> rfl)
  refine EvC.z 36 ?_
  refine EvC.seq ?_
  cases hq : inN t m.rows.length with
  | false =>
    rw [hq] at qt
    apply EvC.s1
    ·apply Tr.run
     ·simp only [go_sem, FA.cells, Mach.cells, List.length_map] <;> rfl
     ·simp
     apply Tr.cons
     ·exact .cg (qt)
     apply Tr.run
     ·simp only [go_sem, FA.cells, Mach.cells, List.length_map] <;> rfl
     ·simp
     apply Tr.cons
     ·exact .skipv (.sc (.bool false)) rfl rfl (by simp only [go_sem] <;> rfl) (by simp only [go_sem] <;> rfl)
     apply Tr.run
     ·simp only [go_sem, FA.cells, Mach.cells, List.length_map] <;> rfl
     ·simp
     apply Tr.cons
     ·exact .skipv (.sc (.bool false)) rfl rfl (by simp only [go_sem] <;> rfl) (by simp only [go_sem] <;> rfl)
     apply Tr.done
     ·simp only [go_sem] <;> rfl
     ·simp
    refine EvC.ct ?_
    refine EvC.a ?_
    refine EvC.rz ?_
    simp only [go_sem]
  | true =>
  rw [hq] at qt
  apply EvC.s1
  ·apply Tr.run
   ·simp only [go_sem, FA.cells, Mach.cells, List.length_map] <;> rfl
   ·simp
   apply Tr.cons
   ·exact .cg (qt)
   apply Tr.run
   ·simp only [go_sem, FA.cells, Mach.cells, List.length_map] <;> rfl
   ·simp
   apply Tr.cons
   ·exact .skipv (.sc (.bool false)) rfl rfl (by simp only [go_sem] <;> rfl) (by simp only [go_sem] <;> rfl)
   apply Tr.run
   ·simp only [go_sem, FA.cells, Mach.cells, List.length_map] <;> rfl
   ·simp
   apply Tr.cons
   ·exact .skipv (.sc (.bool false)) rfl rfl (by simp only [go_sem] <;> rfl) (by simp only [go_sem] <;> rfl)
   apply Tr.done
   ·simp only [go_sem] <;> rfl
   ·simp
  refine EvC.cs ?_
  refine EvC.seq ?_
  refine EvC.d mixed ?_ (h := by simp only [go_sem, h3, h4, rowC, edgeC, n0, List.length_map] <;> rfl) (hok := by simp; try omega)
  refine EvC.cs ?_
  refine EvC.seq ?_
  by_cases h64 : m.rows.length = 64
  ·have d : decide ((m.rows.length : Int) = 64) = true := decide_eq_true (by omega)
   refine EvC.g ?_ (h := by simp only [go_sem, List.length_map, d] <;> rfl)
   refine EvC.ct ?_
   refine EvC.a ?_
   refine EvC.rz ?_
   simp only [go_sem]
   simp [h64]
  ·have d : decide ((m.rows.length : Int) = 64) = false := decide_eq_false (by omega)
   refine EvC.g ?_ (h := by simp only [go_sem, List.length_map, d] <;> rfl)
   refine EvC.cs ?_
   refine EvC.a ?_
   refine EvC.rz ?_
   simp only [go_sem]
   simp [h64]
 ·
  rw [if_neg (show ¬ (4 : Int) = 0 by decide), if_neg (show ¬ (4 : Int) = 1 by decide), if_neg (show ¬ (4 : Int) = 2 by decide), if_neg (show ¬ (4 : Int) = 3 by decide)]
  have qd2 := defined84_is hv e.1 a
  rw [hsm]
  refine EvC.a ?_ (by simp only [go_sem, kindTab, kindN, n0, n1, n2, n3, n4, Nat.reduceMul] <;> rfl)
  refine EvC.z 36 ?_
  refine EvC.seq ?_
  cases hq : inN o m.outs with
  | false =>
    rw [hq] at qo
    apply EvC.s1
    ·apply Tr.run
     ·simp only [go_sem, FA.cells, Mach.cells, List.length_map] <;> rfl
     ·simp
     apply Tr.cons
     ·exact .skipv (.sc (.bool false)) rfl rfl (by simp only [go_sem] <;> rfl) (by simp only [go_sem] <;> rfl)
     apply Tr.run
     ·simp only [go_sem, FA.cells, Mach.cells, List.length_map] <;> rfl
     ·simp
     apply Tr.cons
     ·exact .cg (qo)
     apply Tr.run
     ·simp only [go_sem, FA.cells, Mach.cells, List.length_map] <;> rfl
     ·simp
     apply Tr.cons
     ·exact .skipv (.sc (.bool false)) rfl rfl (by simp only [go_sem] <;> rfl) (by simp only [go_sem] <;> rfl)
     apply Tr.done
     ·simp only [go_sem] <;> rfl
     ·simp
    refine EvC.ct ?_
    refine EvC.a ?_
    refine EvC.rz ?_
    simp only [go_sem]
  | true =>
  rw [hq] at qo
  cases hq2 : definedB m e.1 a with
  | false =>
    rw [hq2] at qd2
    apply EvC.s1
    ·apply Tr.run
     ·simp only [go_sem, FA.cells, Mach.cells, List.length_map] <;> rfl
     ·simp
     apply Tr.cons
     ·exact .skipv (.sc (.bool false)) rfl rfl (by simp only [go_sem] <;> rfl) (by simp only [go_sem] <;> rfl)
     apply Tr.run
     ·simp only [go_sem, FA.cells, Mach.cells, List.length_map] <;> rfl
     ·simp
     apply Tr.cons
     ·exact .cg (qo)
     apply Tr.run
     ·simp only [go_sem, FA.cells, Mach.cells, List.length_map] <;> rfl
     ·simp
     apply Tr.cons
     ·exact .cg (qd2)
     apply Tr.done
     ·simp only [go_sem] <;> rfl
     ·simp
    refine EvC.ct ?_
    refine EvC.a ?_
    refine EvC.rz ?_
    simp only [go_sem]
  | true =>
  rw [hq2] at qd2
  obtain ⟨r4, k1, k2, _⟩ := step_in hv hq2
  have hr34 : r4 = r3 := by rw [h3] at k1; exact (Option.some.inj k1).symm
  subst hr34
  rw [hsm] at k2
  generalize (r4.2[a.toNat]?).getD (-1, -1) = e4 at k2
  obtain ⟨_, b3, _⟩ := definedB_iff.1 hq2
  apply EvC.s1
  ·apply Tr.run
   ·simp only [go_sem, FA.cells, Mach.cells, List.length_map] <;> rfl
   ·simp
   apply Tr.cons
   ·exact .skipv (.sc (.bool false)) rfl rfl (by simp only [go_sem] <;> rfl) (by simp only [go_sem] <;> rfl)
   apply Tr.run
   ·simp only [go_sem, FA.cells, Mach.cells, List.length_map] <;> rfl
   ·simp
   apply Tr.cons
   ·exact .cg (qo)
   apply Tr.run
   ·simp only [go_sem, FA.cells, Mach.cells, List.length_map] <;> rfl
   ·simp
   apply Tr.cons
   ·exact .cg (qd2)
   apply Tr.done
   ·simp only [go_sem] <;> rfl
   ·simp
  refine EvC.cs ?_
  refine EvC.seq ?_
  refine EvC.d mixed ?_ (h := by simp only [go_sem, h3, k2, rowC, edgeC, n0, List.length_map] <;> rfl) (hok := by simp; try omega)
  refine EvC.cond (by simp only [go_sem] <;> rfl) (fun hc => ?_) (fun hc => ?_)
  ·have hc' : o = e4.2 := by simpa using hc
   refine EvC.a ?_
   refine EvC.rz ?_
   simp only [go_sem]
   simp [hc']
  have hc' : ¬ o = e4.2 := by simpa using hc
  refine EvC.skip ?_
  refine EvC.seq ?_
  by_cases h64 : m.rows.length = 64
  ·have d : decide ((m.rows.length : Int) = 64) = true := decide_eq_true (by omega)
   refine EvC.g ?_ (h := by simp only [go_sem, List.length_map, d] <;> rfl)
   refine EvC.ct ?_
   refine EvC.a ?_
   refine EvC.rz ?_
   simp only [go_sem]
   simp [h64, hc']
  ·have d : decide ((m.rows.length : Int) = 64) = false := decide_eq_false (by omega)
   refine EvC.g ?_ (h := by simp only [go_sem, List.length_map, d] <;> rfl)
   refine EvC.cs ?_
   refine EvC.a ?_
   refine EvC.rz ?_
   simp only [go_sem]
   simp [h64, hc']
theorem clone80_is (es : List (Int × Int)) (c : Cp) (hl : es.length < 1000000) : PureIs prog 80 [.sl false (es.map edgeC) c] (.sl false (es.map edgeC) .unk) := by
 refine PureIs.of1 1 [2, 4] func80 ntmps80 results80 fun _ => ?_
 refine EvC.a ?_
 refine EvC.seq ?_
 refine EvC.a ?_
 refine EvC.cs ?_
 have hr1 : room es.length 16 = true := by simp only [room_eq, decide_eq_true_eq]; omega
 have hr3 : ∀ a b : Int, (a, b) ∈ es → (edgeC (a, b)).length = 2 := fun _ _ _ => rfl
 refine EvC.a ?_ (by simp only [go_sem, List.length_map] <;> rfl) (by simp [hr1]; try exact hr3)
 refine EvC.frz 5 (by simp only [go_sem, List.length_map] <;> rfl) ?_
 refine EvC.ret ⟨.inl rfl, _, (by simp only [go_sem, List.length_map] <;> rfl), ?_, by simp [AV.noref, norefs_edges]⟩
 simp only [go_sem, List.length_map]
theorem clone80_new (es : List (Int × Int)) (c : Cp) (hl : es.length < 1000000) (h0 : es.length ≠ 0) : PureNew prog 80 [.sl false (es.map edgeC) c] 2 (es.map edgeC) := by
 refine PureNew.of (nv := 1) (hid := [2, 4]) func80 rfl (by kernel_rfl) (by simp [ntmps80]) fun _ => ?_
 rw [ntmps80, results80]
 refine EvC.a ?_
 refine EvC.seq ?_
 refine EvC.a ?_
 refine EvC.cs ?_
 have hr1 : room es.length 16 = true := by simp only [room_eq, decide_eq_true_eq]; omega
 have hr3 : ∀ a b : Int, (a, b) ∈ es → (edgeC (a, b)).length = 2 := fun _ _ _ => rfl
 refine EvC.a ?_ (by simp only [go_sem, List.length_map] <;> rfl) (by simp [hr1]; try exact hr3)
 refine EvC.ret ⟨.inl rfl, _, 5, (by simp only [go_sem, List.length_map] <;> rfl), .inl ?_, ?_, by simpa using h0, norefs_edges es⟩
 ·simp only [List.length_map]
 ·rfl
theorem clip79_is (es : List (Int × Int)) (c : Cp) : PureIs prog 79 [.sl false (es.map edgeC) c] (.sl false (es.map edgeC) .unk) := by
 have hr3 : ∀ a b : Int, (a, b) ∈ es → (edgeC (a, b)).length = 2 := fun _ _ _ => rfl
 have key : PureIs prog 79 [.sl false (es.map edgeC) c] (.sl false (es.map edgeC) .full) := by
  refine PureIs.of1 1 [2] func79 ntmps79 results79 fun _ => ?_
  refine EvC.a ?_
  refine EvC.a ?_ (by simp only [go_sem, List.length_map, Int.toNat_natCast, List.drop_zero] <;> rfl) (by simp; try exact hr3)
  refine EvC.ret ⟨.inl rfl, _, (by simp only [go_sem] <;> rfl), ?_, by simp [AV.noref, norefs_edges]⟩
  simp only [go_sem]
  rw [List.take_of_length_le (by simp)]
 have h := key.weakR
 rwa [show (AV.sl false (es.map edgeC) Cp.full).unk = .sl false (es.map edgeC) .unk from by
  simp only [AV.unk]; congr 1; exact unkss_map edgeC (fun x => rfl) es] at h
theorem clip79_clips : Clips prog 79 := fun a n c h hlt => by
 refine PureIs.of1 1 [2] func79 ntmps79 results79 fun _ => ?_
 refine EvC.a ?_
 refine EvC.a ?_ (by simp only [go_sem, Int.toNat_natCast] <;> rfl) (by simp; try omega)
 refine EvC.rz ?_
 simp only [go_sem]
def rowAt (m : Mach) (s : Int) : List (Int × Int) := ((m.rows[s.toNat]?).map (·.2)).getD []
def copyR (m : Mach) : List Row := m.rows.map fun r => (false, r.2)
def putR (m : Mach) (s i : Int) (e : Int × Int) : List Row := (copyR m).set s.toNat (false, (rowAt m s).set i.toNat e)
def mutRows (m : Mach) (f : FA) : List Row :=
 if f.kind = 0 then putR m f.state f.input ((stepM m f.state f.input).1, f.out)
 else if f.kind = 1 then putR m f.state f.input (f.to, (stepM m f.state f.input).2)
 else if f.kind = 2 then putR m f.state f.input (-1, -1)
 else if f.kind = 3 then putR m f.state f.input ((m.rows.length : Int), (stepM m f.state f.input).2) ++ [(false, rowAt m f.to)]
 else putR m f.state f.input ((m.rows.length : Int), (stepM m f.state f.input).2) ++ [(false, (rowAt m (stepM m f.state f.input).1).set f.at'.toNat ((stepM m (stepM m f.state f.input).1 f.at').1, f.out))]
def mutF (m : Mach) (f : FA) : Mach := ⟨m.ins, m.outs, false, mutRows m f⟩
def putRaw (m : Mach) (s i : Int) (e : Int × Int) : List (List AV) := ((copyR m).map rowC).set s.toNat [.sl false (((rowAt m s).set i.toNat e).map edgeC) .full]
def rawRows (m : Mach) (f : FA) : List (List AV) :=
 if f.kind = 0 then putRaw m f.state f.input ((stepM m f.state f.input).1, f.out)
 else if f.kind = 1 then putRaw m f.state f.input (f.to, (stepM m f.state f.input).2)
 else if f.kind = 2 then putRaw m f.state f.input (-1, -1)
 else if f.kind = 3 then putRaw m f.state f.input ((m.rows.length : Int), (stepM m f.state f.input).2) ++ [[.sl false ((rowAt m f.to).map edgeC) .unk]]
 else putRaw m f.state f.input ((m.rows.length : Int), (stepM m f.state f.input).2) ++ [[.sl false (((rowAt m (stepM m f.state f.input).1).set f.at'.toNat ((stepM m (stepM m f.state f.input).1 f.at').1, f.out)).map edgeC) .full]]
theorem unk_edges (b : Bool) (es : List (Int × Int)) (c : Cp) : AV.unks [.sl b (es.map edgeC) c] = rowC (b, es) := by
 have h : AV.unkss (es.map edgeC) = es.map edgeC := unkss_map edgeC (fun x => rfl) es
 simp only [AV.unks, AV.unk, h]; rfl
theorem unkss_rows (l : List Row) : AV.unkss (l.map rowC) = l.map rowC := unkss_map rowC (fun x => unk_edges x.1 x.2 .unk) l
theorem putRaw_unk (m : Mach) (s i : Int) (e : Int × Int) : AV.unkss (putRaw m s i e) = (putR m s i e).map rowC := by
 unfold putRaw putR
 rw [unkss_eq, List.map_set, unk_edges, ← unkss_eq, unkss_rows, List.map_set]
theorem rawRows_unk (m : Mach) (f : FA) : AV.unkss (rawRows m f) = (mutRows m f).map rowC := by
 have app : ∀ (A B : List (List AV)), AV.unkss (A ++ B) = AV.unkss A ++ AV.unkss B := fun A B => by simp [unkss_eq]
 unfold rawRows mutRows
 split
 ·exact putRaw_unk _ _ _ _
 split
 ·exact putRaw_unk _ _ _ _
 split
 ·exact putRaw_unk _ _ _ _
 split
 ·rw [app, putRaw_unk, List.map_append]
  congr 1
  simp only [AV.unkss, unk_edges]; rfl
 ·rw [app, putRaw_unk, List.map_append]
  congr 1
  simp only [AV.unkss, unk_edges]; rfl
def applyRaw (m : Mach) (f : FA) : AV :=
 if checkF m f = 0 then .tu [.ag [.sc (.int .i64 m.ins), .sc (.int .i64 m.outs), .sl false (rawRows m f) .full], .sc (.int .i64 0)] else .tu [.ag [.sc (.int .i64 0), .sc (.int .i64 0), .sl true [] .zer], .sc (.int .i64 (checkF m f))]
def applyR (m : Mach) (f : FA) : AV :=
 if checkF m f = 0 then .tu [.ag (mutF m f).cells, .sc (.int .i64 0)] else .tu [.ag [.sc (.int .i64 0), .sc (.int .i64 0), .sl true [] .unk], .sc (.int .i64 (checkF m f))]
theorem applyRaw_unk (m : Mach) (f : FA) : (applyRaw m f).unk = applyR m f := by
 unfold applyRaw applyR
 split
 ·simp only [AV.unk, AV.unks, rawRows_unk]; rfl
 ·simp only [AV.unk, AV.unks, AV.unkss]
def NoNil (m : Mach) : Prop := ∀ r ∈ m.rows, r.1 = true → r.2 = []
theorem NoNil.row {m : Mach} (hv : Valid m) (h : NoNil m) {r : Row} (hr : r ∈ m.rows) : r = (false, r.2) := by
 obtain ⟨b, l⟩ := r
 cases b with
 | false => rfl
 | true =>
   have h1 := h _ hr rfl
   have h2 := (hv.row _ hr).1
   have h3 := hv.ins
   simp only at h1 h2
   rw [h1] at h2
   simp at h2
   omega
def rowsK (m : Mach) (k S : Nat) (v : AV) : List (List AV) := (((m.rows.take k).map fun r => (false, r.2)).map rowC).set S [v]
theorem rowsK_len {m : Mach} {k S : Nat} {v : AV} (h : k ≤ m.rows.length) : (rowsK m k S v).length = k := by simp [rowsK]; omega
theorem rowsK_other {m : Mach} {k S : Nat} {v : AV} {r : Row} (h : m.rows[k]? = some r) (hk : k ≠ S) : rowsK m k S v ++ [rowC (false, r.2)] = rowsK m (k + 1) S v := by
 obtain ⟨hi, he⟩ := List.getElem?_eq_some_iff.1 h
 have hl : (((m.rows.take k).map fun r => ((false, r.2) : Row)).map rowC).length = k := by simp; omega
 unfold rowsK
 rw [List.take_succ_eq_append_getElem hi, he, List.map_append, List.map_append]
 generalize ((m.rows.take k).map fun r => ((false, r.2) : Row)).map rowC = A at hl
 by_cases hS : S < k
 ·rw [List.set_append_left _ _ (by omega)]; rfl
 ·rw [List.set_append_right _ _ (by omega), List.set_eq_of_length_le (by omega : A.length ≤ S), List.set_eq_of_length_le (by simp; omega)]; rfl
theorem rowsK_self {m : Mach} {S : Nat} {v w : AV} {r : Row} (h : m.rows[S]? = some r) : rowsK m S S w ++ [[v]] = rowsK m (S + 1) S v := by
 obtain ⟨hi, he⟩ := List.getElem?_eq_some_iff.1 h
 have hl : (((m.rows.take S).map fun r => ((false, r.2) : Row)).map rowC).length = S := by simp; omega
 unfold rowsK
 rw [List.take_succ_eq_append_getElem hi, he, List.map_append, List.map_append]
 generalize ((m.rows.take S).map fun r => ((false, r.2) : Row)).map rowC = A at hl
 rw [List.set_append_right _ _ (by omega), List.set_eq_of_length_le (by omega : A.length ≤ S), hl, Nat.sub_self]
 rfl
theorem rowC_norefs (r : Row) : AV.norefs (rowC r) = true := by simp [rowC, AV.norefs, AV.noref, norefs_edges]
theorem rowsK_get {m : Mach} {k S : Nat} {v : AV} (h : S < k) (hk : k ≤ m.rows.length) : (rowsK m k S v)[S]? = some [v] := by
 unfold rowsK
 rw [List.getElem?_set_self (by simp; omega)]
theorem rowsK_norefs {m : Mach} {k S : Nat} {v : AV} (h : S < k) (hk : k ≤ m.rows.length) (hv : v.noref = false) : (rowsK m k S v).all AV.norefs = false := by
 rw [List.all_eq_false]
 exact ⟨[v], List.mem_of_getElem? (rowsK_get h hk), by simp [AV.norefs, hv]⟩
theorem rowC_ren (K : List (Nat × Nat)) (r : Row) : (rowC r).map (AV.ren K) = rowC r := by
 have h : (AV.sl r.1 (r.2.map edgeC) Cp.unk).noref = true := by simp [AV.noref, norefs_edges]
 simp [rowC, AV.ren, h]
theorem rowsK_ren (m : Mach) (k S : Nat) (v : AV) (K : List (Nat × Nat)) : (rowsK m k S v).map (fun c => c.map (AV.ren K)) = rowsK m k S (v.ren K) := by
 unfold rowsK
 rw [List.map_set, List.map_map]
 have e : List.map ((fun c => c.map (AV.ren K)) ∘ rowC) ((m.rows.take k).map fun r => ((false, r.2) : Row)) = List.map rowC ((m.rows.take k).map fun r => ((false, r.2) : Row)) := List.map_congr_left fun r _ => rowC_ren K r
 rw [e]; rfl
theorem clip81r_is (es : List (List AV)) (c : Cp) (h1 : ∀ c ∈ es, c.length = 1) (hn : es.all AV.norefs = true) : PureIs prog 81 [.sl false es c] (.sl false es .full) := by
 refine PureIs.of1 1 [2] func81 ntmps81 results81 fun _ => ?_
 refine EvC.a ?_
 refine EvC.a ?_ (by simp only [go_sem, Int.toNat_natCast, List.drop_zero, List.take_length] <;> rfl) (by simp; exact h1)
 refine EvC.ret ⟨.inl rfl, _, (by simp only [go_sem] <;> rfl), ?_, by simp [AV.noref, hn]⟩
 simp only [go_sem]
set_option maxHeartbeats 8000000 in
theorem apply71_is {m : Mach} (hv : Valid m) (hc0 : checkM m = 0) (hnn : NoNil m) (f : FA) : PureIs prog 47 [.ag m.cells, .ag f.cells] (applyR m f) := by
 rw [← applyRaw_unk]
 refine PureIs.weakR ?_
 have q0 := check78_is hv hc0 f
 have hkf : checkF m f = 0 → faultB m f = true := fun h => by
  unfold checkF at h
  split at h
  ·assumption
  ·cases h
 unfold applyRaw
 obtain ⟨kd, s, i, t, a, o⟩ := f
 refine PureIs.of1 8 [9, 10, 11, 12, 17, 23, 24, 25, 26, 34, 48, 53, 67, 87, 94, 101] func47 ntmps47 results47 fun _ => ?_
 refine EvC.a ?_ (by simp only [go_sem, Mach.cells, FA.cells] <;> rfl)
 refine EvC.z 0 ?_
 refine EvC.z 1 ?_
 refine EvC.seq ?_
 refine EvC.k1 ?_ (h1 := by simp only [go_sem, Mach.cells, FA.cells] <;> rfl) (c1 := .ca q0)
 refine EvC.a ?_
 refine EvC.cond (by simp only [go_sem] <;> rfl) (fun hc => ?_) (fun hc => ?_)
 ·
  have hc' : ¬ checkF m ⟨kd, s, i, t, a, o⟩ = 0 := by simpa using hc
  refine EvC.a ?_
  rw [if_neg hc']
  refine EvC.rz ?_
  simp only [go_sem]
 have hc' : checkF m ⟨kd, s, i, t, a, o⟩ = 0 := by simpa using hc
 rw [if_pos hc']
 have hfb := hkf hc'
 clear hc hkf
 unfold faultB at hfb
 simp only [Bool.and_eq_true] at hfb
 obtain ⟨hp, hd, hkb⟩ := hfb
 obtain ⟨r, h1, h2, he⟩ := step_in hv hd
 obtain ⟨b1, b2, _⟩ := definedB_iff.1 hd
 have hkd := plainB_kind hp
 simp only at hkd
 obtain ⟨S, hS⟩ : ∃ S : Nat, S = s.toNat := ⟨_, rfl⟩
 have hSl : S < m.rows.length := by omega
 rw [← hS] at h1
 have hn1 := hv.rows
 have hro := hnn.row hv (List.mem_of_getElem? h1)
 have hrl := (hv.row _ (List.mem_of_getElem? h1)).1
 have hi1 := hv.ins
 refine EvC.skip ?_
 refine EvC.a ?_
 refine EvC.a ?_
 refine EvC.ownC 11 2 1 (by simp only [go_sem] <;> rfl) ?_
 refine EvC.thaw 15 (by simp only [go_sem] <;> rfl) ?_
 refine EvC.seq ?_
 refine EvC.a ?_ (by simp only [go_sem, List.length_map] <;> rfl)
 refine EvC.block ?_
 obtain ⟨n, hn⟩ : ∃ n, n = r.2.length := ⟨_, rfl⟩
 have hn0 : n ≠ 0 := by omega
 obtain ⟨memK, hmK⟩ : ∃ memK : Nat → Mem, memK = fun k => (0, RObj.cells [.sc (.int .i64 0), .sc (.int .i64 0), .sl true [] .zer]) :: (1, .cells [.sc (.int .i64 m.ins), .sc (.int .i64 m.outs), .tl 2 k (decide (k = 0))]) :: (2, .arr 1 (rowsK m k S (.tv 3 n 0 n (.val n))) false) :: (if S < k then [(3, .arr 2 (r.2.map edgeC) false)] else []) := ⟨_, rfl⟩
 have hlo : ∀ k, k ≤ S → memK k = [(0, RObj.cells [.sc (.int .i64 0), .sc (.int .i64 0), .sl true [] .zer]), (1, .cells [.sc (.int .i64 m.ins), .sc (.int .i64 m.outs), .tl 2 k (decide (k = 0))]), (2, .arr 1 (((m.rows.take k).map fun r => ((false, r.2) : Row)).map rowC) false)] := fun k hk => by
  rw [hmK]
  simp only
  rw [if_neg (by omega), rowsK, List.set_eq_of_length_le (by simp; omega)]
 have hhi : ∀ k, S < k → memK k = [(0, RObj.cells [.sc (.int .i64 0), .sc (.int .i64 0), .sl true [] .zer]), (1, .cells [.sc (.int .i64 m.ins), .sc (.int .i64 m.outs), .tl 2 k (decide (k = 0))]), (2, .arr 1 (rowsK m k S (.tv 3 n 0 n (.val n))) false), (3, .arr 2 (r.2.map edgeC) false)] := fun k hk => by
  rw [hmK]
  simp only
  rw [if_pos hk]
 refine EvC.loopS (σ := Nat) (fun k => ⟨[(2, .ia [.sc (.int .i64 m.ins), .sc (.int .i64 m.outs), .sl m.nl (m.rows.map rowC) .unk]), (3, .ia [.sc (.int .i64 kd), .sc (.int .i64 s), .sc (.int .i64 i), .sc (.int .i64 t), .sc (.int .i64 a), .sc (.int .i64 o)]), (4, .rf 0 0), (7, .rf 1 0), (23, .sl m.nl (m.rows.map rowC) .unk), (24, .sc (.int .i64 m.rows.length)), (25, .sc (.int .i64 k))], [], memK k, 4⟩) (fun k => m.rows.length - k) (fun k => k ≤ m.rows.length) [2, 3, 4, 7, 23, 24, 25] 4 ?_ ?_
 ·exact ⟨[(2, 0), (11, 1), (15, 2)], 0, rfl, (by rw [hlo 0 (by omega)]; simp only [go_sem, Int.natCast_zero, List.take_zero, List.map_nil] <;> rfl), Nat.zero_le _⟩
 intro k hk1
 by_cases hkl : k < m.rows.length
 rotate_left
 ·
  obtain rfl : k = m.rows.length := by omega
  rw [hhi m.rows.length hSl]
  have dk : decide ((m.rows.length : Int) < m.rows.length) = false := decide_eq_false (by omega)
  refine EvC.a ?_
  refine EvC.seq ?_
  refine EvC.cf ?_ (by simp only [go_sem, dk] <;> rfl)
  refine EvC.exit ?_
  have hNd : decide (m.rows.length = 0) = false := decide_eq_false (by omega)
  have hg := rowsK_get (v := .tv 3 n 0 n (.val n)) hSl (Nat.le_refl m.rows.length)
  have hRl := rowsK_len (S := S) (v := .tv 3 n 0 n (.val n)) (Nat.le_refl m.rows.length)
  have hel : (r.2.map edgeC).length = n := by rw [List.length_map]; exact hn.symm
  have hin : i.toNat < n := by omega
  refine EvC.d mixed ?_ (h := by simp only [go_sem, hg, hRl, hel, ← hS, hNd] <;> rfl) (hok := by simp; try omega)
  have hrowAt : rowAt m s = r.2 := by unfold rowAt; rw [← hS, h1]; rfl
  refine EvC.mergeC (α := List (Int × Int) × List (List AV)) (fun p => ⟨[(4, .rf 0 0), (7, .rf 1 0)], [], [(0, .cells [.sc (.int .i64 0), .sc (.int .i64 0), .sl true [] .zer]), (1, .cells [.sc (.int .i64 m.ins), .sc (.int .i64 m.outs), .tl 2 (m.rows.length + p.2.length) false]), (2, .arr 1 (rowsK m m.rows.length S (.tv 3 n 0 n (.val n)) ++ p.2) false), (3, .arr 2 (p.1.map edgeC) false)], 4⟩)
   (fun p => p.1.length = n ∧ p.2.all AV.norefs = true ∧ (∀ c ∈ p.2, c.length = 1) ∧ rowsK m m.rows.length S (.sl false (p.1.map edgeC) .full) ++ p.2 = rawRows m ⟨kd, s, i, t, a, o⟩) ?_ ?_
  rotate_left
  ·
   rintro ⟨es, ex⟩ ⟨hes, hex1, hex2, hraw⟩
   simp only at hes hex1 hex2 hraw ⊢
   have hel2 : (es.map edgeC).length = n := by rw [List.length_map]; exact hes
   have hRe : (rowsK m m.rows.length S (.tv 3 n 0 n (.val n)) ++ ex).length = m.rows.length + ex.length := by rw [List.length_append, hRl]
   have hge : (rowsK m m.rows.length S (.tv 3 n 0 n (.val n)) ++ ex)[S]? = some [.tv 3 n 0 n (.val n)] := by rw [List.getElem?_append_left (by rw [hRl]; exact hSl)]; exact hg
   have hse : (rowsK m m.rows.length S (.tv 3 n 0 n (.val n)) ++ ex).set S [.sl false (es.map edgeC) .full] = rawRows m ⟨kd, s, i, t, a, o⟩ := by
    rw [← hraw, List.set_append_left _ _ (by rw [hRl]; exact hSl)]
    unfold rowsK
    rw [List.set_set]
   generalize rowsK m m.rows.length S (.tv 3 n 0 n (.val n)) ++ ex = RW at hRe hge hse
   have hraw1 : (rawRows m ⟨kd, s, i, t, a, o⟩).all AV.norefs = true := by
    rw [← hraw, List.all_append, hex1, Bool.and_true, List.all_eq_true]
    intro c hc
    rcases List.mem_or_eq_of_mem_set hc with h | rfl
    ·obtain ⟨r, _, rfl⟩ := List.mem_map.1 h
     exact rowC_norefs r
    ·simp [AV.norefs, AV.noref, norefs_edges]
   have hraw2 : ∀ c ∈ rawRows m ⟨kd, s, i, t, a, o⟩, c.length = 1 := by
    rw [← hraw]
    intro c hc
    rcases List.mem_append.1 hc with h | h
    ·rcases List.mem_or_eq_of_mem_set h with h | rfl
     ·obtain ⟨r, _, rfl⟩ := List.mem_map.1 h
      rfl
     ·rfl
    ·exact hex2 c h
   have hraw3 : (rawRows m ⟨kd, s, i, t, a, o⟩).length = m.rows.length + ex.length := by
    rw [← hraw, List.length_append, rowsK_len (Nat.le_refl _)]
   have qc := clip81r_is (rawRows m ⟨kd, s, i, t, a, o⟩) .unk hraw2 hraw1
   clear hraw
   generalize rawRows m ⟨kd, s, i, t, a, o⟩ = RR at *
   refine EvC.frz 3 (by simp only [go_sem, hel2] <;> rfl) ?_
   refine EvC.snapE 2 S (by simp only [go_sem, hge, hel2, hse] <;> rfl) ?_
   refine EvC.frzD 2 (by simp only [go_sem, hraw1, hraw3] <;> rfl) ?_
   apply EvC.s1
   ·apply Tr.run
    ·simp only [go_sem] <;> rfl
    ·simp
    apply Tr.cons
    ·exact .call rfl rfl (by simp only [go_sem] <;> rfl) (by simp only [go_sem] <;> rfl) (by simp only [go_sem, hraw1] <;> rfl) (by simp only [go_sem] <;> rfl) (by simp only [go_sem] <;> rfl) (qc)
    apply Tr.done
    ·simp only [go_sem] <;> rfl
    ·simp
   refine EvC.a ?_
   refine EvC.ret ⟨.inl rfl, _, (by simp only [go_sem] <;> rfl), ?_, by simp [AV.noref, AV.norefs, hraw1]⟩
   simp only [go_sem]
  ·
   have hfin : ∀ (es : List (Int × Int)) (ex : List (List AV)), es.length = n → rowsK m m.rows.length S (.sl false (es.map edgeC) .full) = ((copyR m).map rowC).set s.toNat [.sl false (es.map edgeC) .full] := fun es ex _ => by
    unfold rowsK copyR
    rw [List.take_length, ← hS]
   have hge : (r.2.map edgeC)[i.toNat]? = some (edgeC (stepM m s i)) := by rw [List.getElem?_map, h2]; rfl
   have hsetE : ∀ x y : Int, (r.2.map edgeC).set i.toNat [.sc (.int .i64 x), .sc (.int .i64 y)] = (r.2.set i.toNat (x, y)).map edgeC := fun x y => by rw [List.map_set]; rfl
   have hset2 : ∀ x : Int × Int, (r.2.set i.toNat x).length = n := fun x => by rw [List.length_set]; exact hn.symm
   have hnr : (rowsK m m.rows.length S (.tv 3 n 0 n (.val n))).all AV.norefs = false := rowsK_norefs hSl (Nat.le_refl _) rfl
   have hrn := rowsK_ren m m.rows.length S (.tv 3 n 0 n (.val n)) [(0, 0), (1, 1), (2, 2), (3, 3)]
   refine EvC.a ?_
   refine EvC.block ?_
   have hraw : ∀ e' : Int × Int, rowsK m m.rows.length S (.sl false ((r.2.set i.toNat e').map edgeC) .full) = putRaw m s i e' := fun e' => by
    unfold putRaw
    rw [hfin _ [] (hset2 e'), hrowAt]
   generalize hE : stepM m s i = e at *
   rcases hkd with rfl | rfl | rfl | rfl | rfl
   ·
    refine EvC.a ?_
    refine EvC.ct ?_
    refine EvC.b ?_ (by simp only [go_sem, hge, edgeC, hel, hsetE] <;> rfl) (by simp [edgeC])
    refine ⟨rfl, (r.2.set i.toNat (e.1, o), []), ⟨hset2 _, rfl, (fun _ h => by cases h), ?_⟩, fun c Q h => ?_⟩
    ·rw [List.append_nil, hraw, rawRows, if_pos rfl, hE]
    refine EvC.gcE [4, 7] [(0, 0), (1, 1), (2, 2), (3, 3)] 4 rfl (by simp only [go_sem, hnr, hrn, Bool.and_false, List.append_nil, List.length_nil] <;> rfl) h
   ·
    refine EvC.a ?_
    refine EvC.cf ?_
    refine EvC.a ?_
    refine EvC.ct ?_
    refine EvC.b ?_ (by simp only [go_sem, hge, edgeC, hel, hsetE] <;> rfl) (by simp [edgeC])
    refine ⟨rfl, (r.2.set i.toNat (t, e.2), []), ⟨hset2 _, rfl, (fun _ h => by cases h), ?_⟩, fun c Q h => ?_⟩
    ·rw [List.append_nil, hraw, rawRows, if_neg (show ¬ (1 : Int) = 0 by decide), if_pos (show (1 : Int) = 1 from rfl), hE]
    refine EvC.gcE [4, 7] [(0, 0), (1, 1), (2, 2), (3, 3)] 4 rfl (by simp only [go_sem, hnr, hrn, Bool.and_false, List.append_nil, List.length_nil] <;> rfl) h
   ·
    refine EvC.a ?_
    refine EvC.cf ?_
    refine EvC.a ?_
    refine EvC.cf ?_
    refine EvC.a ?_
    refine EvC.ct ?_
    refine EvC.b ?_ (by simp only [go_sem, hge, edgeC, hel, hsetE] <;> rfl) (by simp [edgeC])
    refine ⟨rfl, (r.2.set i.toNat (-1, -1), []), ⟨hset2 _, rfl, (fun _ h => by cases h), ?_⟩, fun c Q h => ?_⟩
    ·rw [List.append_nil, hraw, rawRows, if_neg (show ¬ (2 : Int) = 0 by decide), if_neg (show ¬ (2 : Int) = 1 by decide), if_pos (show (2 : Int) = 2 from rfl)]
    refine EvC.gcE [4, 7] [(0, 0), (1, 1), (2, 2), (3, 3)] 4 rfl (by simp only [go_sem, hnr, hrn, Bool.and_false, List.append_nil, List.length_nil] <;> rfl) h
   ·
    have htn : 0 ≤ t ∧ t < m.rows.length := by
     unfold kindB at hkb
     rw [if_neg (show ¬ (3 : Int) = 0 by decide), if_neg (show ¬ (3 : Int) = 1 by decide), if_neg (show ¬ (3 : Int) = 2 by decide), if_pos (show (3 : Int) = 3 from rfl)] at hkb
     simpa [inN] using hkb
    have h5 : m.rows[t.toNat]? = some (m.rows[t.toNat]'(by omega)) := List.getElem?_eq_getElem (by omega)
    have h5m := List.getElem_mem (show t.toNat < m.rows.length by omega)
    have h5n := hnn.row hv h5m
    have h5r := (hv.row _ h5m).1
    have hrt : rowAt m t = (m.rows[t.toNat]'(by omega)).2 := by unfold rowAt; rw [h5]; rfl
    generalize m.rows[t.toNat]'(by omega) = r5 at h5 h5n h5r hrt
    obtain ⟨b5, e5⟩ := r5
    simp only [Prod.mk.injEq] at h5n h5r hrt
    obtain ⟨rfl, _⟩ := h5n
    have p1 := clone80_is e5 .unk (by omega)
    have p2 := clip79_is e5 .unk
    have hr8 : room (m.rows.length + 1) 24 = true := by simp only [room_eq, decide_eq_true_eq]; omega
    refine EvC.a ?_
    refine EvC.cf ?_
    refine EvC.a ?_
    refine EvC.cf ?_
    refine EvC.a ?_
    refine EvC.cf ?_
    refine EvC.a ?_
    refine EvC.seq ?_
    refine EvC.a ?_
    refine EvC.cs ?_
    refine EvC.k2 ?_ (h1 := by simp only [go_sem, h5, rowC, List.length_map] <;> rfl) (k1 := by simp; try omega) (c1 := .ca p1) (h2 := by simp only [go_sem, h5, rowC, List.length_map] <;> rfl) (k2 := by simp; try omega) (c2 := .ca p2)
    refine EvC.seq ?_
    refine EvC.a ?_
    refine EvC.cs ?_
    refine EvC.a ?_ (by simp only [go_sem, hge, edgeC, hel, hsetE, List.length_map] <;> rfl) (by simp [edgeC])
    refine EvC.b ?_ (by simp only [go_sem, hRl, hr8] <;> rfl)
    have hex1 : ([[.sl false (e5.map edgeC) .unk]] : List (List AV)).all AV.norefs = true := by simp [AV.norefs, AV.noref, norefs_edges]
    have hex3 : ([[.sl false (e5.map edgeC) .unk]] : List (List AV)).map (fun c => c.map (AV.ren [(0, 0), (1, 1), (2, 2), (3, 3)])) = [[.sl false (e5.map edgeC) .unk]] := by simp [AV.ren, AV.noref, norefs_edges]
    generalize hXX : ([[.sl false (e5.map edgeC) .unk]] : List (List AV)) = XX at hex1 hex3 ⊢
    have hXl : XX.length = 1 := by rw [← hXX]; rfl
    refine ⟨rfl, (r.2.set i.toNat ((m.rows.length : Int), e.2), XX), ⟨hset2 _, hex1, (fun c hc => by subst hXX; simp only [List.mem_singleton] at hc; rw [hc]; rfl), ?_⟩, fun c Q h => ?_⟩
    ·rw [hraw, rawRows, if_neg (show ¬ (3 : Int) = 0 by decide), if_neg (show ¬ (3 : Int) = 1 by decide), if_neg (show ¬ (3 : Int) = 2 by decide), if_pos (show (3 : Int) = 3 from rfl), hE, hrt, hXX]
    rw [hXl] at h
    refine EvC.gcE [4, 7] [(0, 0), (1, 1), (2, 2), (3, 3)] 4 rfl (by simp only [go_sem, hnr, hrn, List.all_append, Bool.false_and, hex1, hex3, List.map_append] <;> rfl) h
   ·
    have hd2 : definedB m e.1 a = true := by
     unfold kindB at hkb
     rw [if_neg (show ¬ (4 : Int) = 0 by decide), if_neg (show ¬ (4 : Int) = 1 by decide), if_neg (show ¬ (4 : Int) = 2 by decide), if_neg (show ¬ (4 : Int) = 3 by decide)] at hkb
     simp only [Bool.and_eq_true] at hkb
     rw [hE] at hkb
     exact hkb.2.1
    obtain ⟨r5, h5, h5i, _⟩ := step_in hv hd2
    obtain ⟨c1, c2, _⟩ := definedB_iff.1 hd2
    have h5m := List.mem_of_getElem? h5
    have h5n := hnn.row hv h5m
    have h5r := (hv.row _ h5m).1
    have hrt : rowAt m e.1 = r5.2 := by unfold rowAt; rw [h5]; rfl
    obtain ⟨b5, e5⟩ := r5
    simp only [Prod.mk.injEq] at h5n h5r hrt h5i
    obtain ⟨rfl, _⟩ := h5n
    obtain ⟨q, hq⟩ : ∃ q, q = e5.length := ⟨_, rfl⟩
    have q1 := clone80_new e5 .unk (by omega) (by omega)
    have hr8 : room (m.rows.length + 1) 24 = true := by simp only [room_eq, decide_eq_true_eq]; omega
    refine EvC.a ?_
    refine EvC.cf ?_
    refine EvC.a ?_
    refine EvC.cf ?_
    refine EvC.a ?_
    refine EvC.cf ?_
    refine EvC.a ?_
    refine EvC.seq ?_
    refine EvC.a ?_
    refine EvC.ct ?_
    refine EvC.b ?_ (by simp only [go_sem, hge, edgeC, hel] <;> rfl)
    refine EvC.seq ?_
    apply EvC.tr
    ·apply Tr.run
     ·simp only [go_sem, h5, rowC] <;> rfl
     ·simp; try omega
     apply Tr.cons
     ·exact .callN rfl rfl (by simp only [go_sem] <;> rfl) (by simp only [go_sem] <;> rfl) (by simp only [go_sem] <;> rfl) (by simp only [go_sem] <;> rfl) (by simp only [go_sem] <;> rfl) q1
     apply Tr.cons
     ·exact .clip (i := 39) (n := e5.length) rfl rfl (by simp only [go_sem] <;> rfl) (by simp only [go_sem] <;> rfl) (by simp only [go_sem, List.length_map] <;> rfl) (by simp only [go_sem] <;> rfl) (by rw [List.length_map]) (by omega) (by omega) (by simp only [go_sem] <;> rfl) clip79_clips
     apply Tr.done
     ·simp only [go_sem] <;> rfl
     ·simp
    have h5g : (e5.map edgeC)[a.toNat]? = some (edgeC (stepM m e.1 a)) := by rw [List.getElem?_map, h5i]; rfl
    have h5s : ∀ x y : Int, (e5.map edgeC).set a.toNat [.sc (.int .i64 x), .sc (.int .i64 y)] = (e5.set a.toNat (x, y)).map edgeC := fun x y => by rw [List.map_set]; rfl
    have h5l : (e5.set a.toNat ((stepM m e.1 a).1, o)).length = e5.length := List.length_set
    refine EvC.seq ?_
    refine EvC.a ?_
    refine EvC.ct ?_
    refine EvC.b ?_ (by simp only [go_sem, h5g, edgeC, List.length_map, h5s] <;> rfl) (by simp; try omega)
    refine EvC.a ?_ (by simp only [go_sem, hge, edgeC, hel, hsetE, List.length_map] <;> rfl) (by simp [edgeC])
    refine EvC.frz 39 (by simp only [go_sem, List.length_map, h5l] <;> rfl) ?_
    refine EvC.b ?_ (by simp only [go_sem, hRl, hr8] <;> rfl)
    have hex1 : ([[.sl false ((e5.set a.toNat ((stepM m e.1 a).1, o)).map edgeC) .full]] : List (List AV)).all AV.norefs = true := by simp [AV.norefs, AV.noref, norefs_edges]
    have hex3 : ([[.sl false ((e5.set a.toNat ((stepM m e.1 a).1, o)).map edgeC) .full]] : List (List AV)).map (fun c => c.map (AV.ren [(0, 0), (1, 1), (2, 2), (3, 3)])) = [[.sl false ((e5.set a.toNat ((stepM m e.1 a).1, o)).map edgeC) .full]] := by simp [AV.ren, AV.noref, norefs_edges]
    generalize hXX : ([[.sl false ((e5.set a.toNat ((stepM m e.1 a).1, o)).map edgeC) .full]] : List (List AV)) = XX at hex1 hex3 ⊢
    have hXl : XX.length = 1 := by rw [← hXX]; rfl
    refine ⟨rfl, (r.2.set i.toNat ((m.rows.length : Int), e.2), XX), ⟨hset2 _, hex1, (fun c hc => by subst hXX; simp only [List.mem_singleton] at hc; rw [hc]; rfl), ?_⟩, fun c Q h => ?_⟩
    ·rw [hraw, rawRows, if_neg (show ¬ (4 : Int) = 0 by decide), if_neg (show ¬ (4 : Int) = 1 by decide), if_neg (show ¬ (4 : Int) = 2 by decide), if_neg (show ¬ (4 : Int) = 3 by decide), hE, hrt, hXX]
    rw [hXl] at h
    refine EvC.gcE [4, 7] [(0, 0), (1, 1), (2, 2), (3, 3)] 4 rfl (by simp only [go_sem, hnr, hrn, List.all_append, Bool.false_and, hex1, hex3, List.map_append] <;> rfl) h
 have dk : decide ((k : Int) < m.rows.length) = true := decide_eq_true (by omega)
 have hk : m.rows[k]? = some (m.rows[k]'hkl) := List.getElem?_eq_getElem hkl
 have hkm := List.getElem_mem hkl
 have hkn := hnn.row hv hkm
 have hkr := (hv.row _ hkm).1
 generalize m.rows[k]'hkl = rk at hk hkn hkr
 obtain ⟨bk, es⟩ := rk
 simp only [Prod.mk.injEq] at hkn hkr
 obtain ⟨rfl, _⟩ := hkn
 have hin : (k : Int).toNat = k := Int.toNat_natCast k
 have hr8 : room (k + 1) 24 = true := by simp only [room_eq, decide_eq_true_eq]; omega
 have hk1d : decide (k + 1 = 0) = false := decide_eq_false (by omega)
 have hel : (es.map edgeC).length = es.length := List.length_map _
 by_cases hkS : k = S
 ·subst hkS
  have hre : r = (false, es) := by rw [hk] at h1; exact (Option.some.inj h1).symm
  subst hre
  have hsn := rowsK_self (m := m) (S := k) (v := .tv 3 n 0 n (.val n)) (w := .tv 3 n 0 n (.val n)) hk
  have hl0 : rowsK m k k (.tv 3 n 0 n (.val n)) = ((m.rows.take k).map fun r => ((false, r.2) : Row)).map rowC := by rw [rowsK, List.set_eq_of_length_le (by simp; omega)]
  rw [hlo k (by omega)]
  refine EvC.a ?_
  refine EvC.seq ?_
  refine EvC.cr ?_ (by simp only [go_sem, dk] <;> rfl)
  refine EvC.seq ?_
  refine EvC.block ?_
  refine EvC.a ?_ (by simp only [go_sem, hk, hin, rowC] <;> rfl)
  have hsn := rowsK_self (m := m) (S := k) (v := .tv 11 n 0 n (.val n)) (w := .tv 3 n 0 n (.val n)) hk
  rw [hl0] at hsn
  have q1 := clone80_new es .unk (by omega) (by omega)
  have hnl : n = es.length := hn
  have hRl4 : (rowsK m (k + 1) k (.tv 11 n 0 n (.val n))).length = k + 1 := rowsK_len (by omega)
  have hRl : (((m.rows.take k).map fun r => ((false, r.2) : Row)).map rowC).length = k := by simp; omega
  apply EvC.drwA mixed
  ·apply Tr.run
   ·simp only [go_sem] <;> rfl
   ·simp
   apply Tr.cons
   ·exact .callN rfl rfl (by simp only [go_sem] <;> rfl) (by simp only [go_sem] <;> rfl) (by simp only [go_sem] <;> rfl) (by simp only [go_sem] <;> rfl) (by simp only [go_sem] <;> rfl) q1
   apply Tr.cons
   ·exact .clip (i := 11) (n := es.length) rfl rfl (by simp only [go_sem] <;> rfl) (by simp only [go_sem] <;> rfl) (by simp only [go_sem, hel] <;> rfl) (by simp only [go_sem] <;> rfl) (by rw [hel]) (by omega) (by omega) (by simp only [go_sem] <;> rfl) clip79_clips
   apply Tr.done
   ·simp only [go_sem, hRl, hel, ← hnl, hsn, hRl4] <;> rfl
   ·simp [hr8]
  ·kernel_rfl
  have hkk : k + 1 ≤ m.rows.length := hkl
  have hnr : (rowsK m (k + 1) k (.tv 11 n 0 n (.val n))).all AV.norefs = false := rowsK_norefs (by omega) hkk rfl
  have hrn := rowsK_ren m (k + 1) k (.tv 11 n 0 n (.val n)) [(0, 0), (1, 1), (2, 2), (11, 3)]
  refine EvC.b ?_ (hok := by exact inI64_of (by omega) (by omega))
  exact ⟨[(0, 0), (1, 1), (2, 2), (11, 3)], k + 1, rfl, (by rw [hhi (k + 1) (by omega)]; simp only [go_sem, hnr, hrn, hk1d, Bool.and_false, Int.natCast_add, Int.natCast_one] <;> rfl), hkk, by omega⟩
 ·have hsn := rowsK_other (v := .tv 3 n 0 n (.val n)) hk hkS
  simp only at hsn
  have hkk : k + 1 ≤ m.rows.length := hkl
  have hRl : (((m.rows.take k).map fun r => ((false, r.2) : Row)).map rowC).length = k := by simp; omega
  have hRl2 : (rowsK m k S (.tv 3 n 0 n (.val n))).length = k := rowsK_len (by omega)
  have hRl3 : (rowsK m (k + 1) S (.tv 3 n 0 n (.val n))).length = k + 1 := rowsK_len (by omega)
  have hRl5 : (List.take (k + 1) m.rows).length = k + 1 := by simp; omega
  have q1 := clone80_is es .unk (by omega)
  have q2 := clip79_is es .unk
  rcases Nat.lt_or_ge k S with hlt | hge
  ·have hl0 : rowsK m k S (.tv 3 n 0 n (.val n)) = ((m.rows.take k).map fun r => ((false, r.2) : Row)).map rowC := by rw [rowsK, List.set_eq_of_length_le (by simp; omega)]
   have hl1 : rowsK m (k + 1) S (.tv 3 n 0 n (.val n)) = ((m.rows.take (k + 1)).map fun r => ((false, r.2) : Row)).map rowC := by rw [rowsK, List.set_eq_of_length_le (by simp; omega)]
   rw [hl0, hl1] at hsn
   have hsn : List.map rowC (List.map (fun r => (false, r.snd)) (List.take k m.rows)) ++ [[.sl false (es.map edgeC) .unk]] = List.map rowC (List.map (fun r => (false, r.snd)) (List.take (k + 1) m.rows)) := hsn
   rw [hlo k (by omega)]
   refine EvC.a ?_
   refine EvC.seq ?_
   refine EvC.cr ?_ (by simp only [go_sem, dk] <;> rfl)
   refine EvC.seq ?_
   refine EvC.block ?_
   refine EvC.a ?_ (by simp only [go_sem, hk, hin, rowC] <;> rfl)
   apply EvC.drwA mixed
   ·apply Tr.run
    ·simp only [go_sem] <;> rfl
    ·simp
    apply Tr.cons
    ·exact .call rfl rfl (by simp only [go_sem] <;> rfl) (by simp only [go_sem] <;> rfl) (by simp only [go_sem] <;> rfl) (by simp only [go_sem] <;> rfl) (by simp only [go_sem] <;> rfl) q1
    apply Tr.cons
    ·exact .call rfl rfl (by simp only [go_sem] <;> rfl) (by simp only [go_sem] <;> rfl) (by simp only [go_sem] <;> rfl) (by simp only [go_sem] <;> rfl) (by simp only [go_sem] <;> rfl) q2
    apply Tr.done
    ·simp only [go_sem, hRl, hsn, List.length_map, hRl5] <;> rfl
    ·simp [hr8]
   ·kernel_rfl
   refine EvC.b ?_ (hok := by exact inI64_of (by omega) (by omega))
   have hnr : (List.map rowC (List.map (fun r => ((false, r.snd) : Row)) (List.take (k + 1) m.rows))).all AV.norefs = true := by
    simp only [List.all_eq_true]
    intro c hc
    obtain ⟨r, _, rfl⟩ := List.mem_map.1 hc
    exact rowC_norefs r
   exact ⟨[(0, 0), (1, 1), (2, 2)], k + 1, rfl, (by rw [hlo (k + 1) (by omega)]; simp only [go_sem, hnr, hk1d, Bool.and_false, Int.natCast_add, Int.natCast_one] <;> rfl), hkk, by omega⟩
  ·have hsn : rowsK m k S (.tv 3 n 0 n (.val n)) ++ [[.sl false (es.map edgeC) .unk]] = rowsK m (k + 1) S (.tv 3 n 0 n (.val n)) := hsn
   rw [hhi k (by omega)]
   refine EvC.a ?_
   refine EvC.seq ?_
   refine EvC.cr ?_ (by simp only [go_sem, dk] <;> rfl)
   refine EvC.seq ?_
   refine EvC.block ?_
   refine EvC.a ?_ (by simp only [go_sem, hk, hin, rowC] <;> rfl)
   apply EvC.drwA mixed
   ·apply Tr.run
    ·simp only [go_sem] <;> rfl
    ·simp
    apply Tr.cons
    ·exact .call rfl rfl (by simp only [go_sem] <;> rfl) (by simp only [go_sem] <;> rfl) (by simp only [go_sem] <;> rfl) (by simp only [go_sem] <;> rfl) (by simp only [go_sem] <;> rfl) q1
    apply Tr.cons
    ·exact .call rfl rfl (by simp only [go_sem] <;> rfl) (by simp only [go_sem] <;> rfl) (by simp only [go_sem] <;> rfl) (by simp only [go_sem] <;> rfl) (by simp only [go_sem] <;> rfl) q2
    apply Tr.done
    ·simp only [go_sem, hRl2, hsn, hRl3] <;> rfl
    ·simp [hr8]
   ·kernel_rfl
   have hnr : (rowsK m (k + 1) S (.tv 3 n 0 n (.val n))).all AV.norefs = false := rowsK_norefs (by omega) hkk rfl
   have hrn := rowsK_ren m (k + 1) S (.tv 3 n 0 n (.val n)) [(0, 0), (1, 1), (2, 2), (3, 3)]
   refine EvC.b ?_ (hok := by exact inI64_of (by omega) (by omega))
   exact ⟨[(0, 0), (1, 1), (2, 2), (3, 3)], k + 1, rfl, (by rw [hhi (k + 1) (by omega)]; simp only [go_sem, hnr, hrn, hk1d, Bool.and_false, Int.natCast_add, Int.natCast_one] <;> rfl), hkk, by omega⟩
theorem list_step {α : Type} {a : List α} {i : Nat} {x : α} (h : a[i]? = some x) : a.drop i = x :: a.drop (i + 1) := by
 obtain ⟨hi, he⟩ := List.getElem?_eq_some_iff.1 h
 rw [List.drop_eq_getElem_cons hi, he]
theorem clipI_is (nl : Bool) (es : List (List AV)) (c : Cp) (h : (es.all fun y => decide (y.length = 1)) = true) : PureIs prog 54 [.sl nl es c] (.sl nl es .full) := by
 refine PureIs.of1 3 [] func54 ntmps54 results54 fun _ => ?_
 refine EvC.seq (EvC.rg (by simp only [go_sem] <;> rfl) rfl ?_)
 refine EvC.a ?_ (hok := by simp [h])
 refine EvC.ret ⟨.inl rfl, _, (by simp only [go_sem] <;> rfl), rfl, rfl⟩
def cmpI : List Int → List Int → Int
 | x :: a, y :: b => if x < y then -1 else if y < x then 1 else cmpI a b
 | _, _ => 0
def cmpL (a b : List Int) : Int := if a.length = b.length then cmpI a b else if a.length < b.length then -1 else 1
theorem cmpI_zero : ∀ {a b : List Int}, a.length = b.length → (cmpI a b = 0 ↔ a = b)
 | [], [], _ => by simp [cmpI]
 | x :: a, y :: b, h => by
   unfold cmpI
   split
   ·simp; omega
   split
   ·simp; omega
   ·rw [cmpI_zero (by simpa using h)]
    simp; omega
theorem cmpL_zero {a b : List Int} : cmpL a b = 0 ↔ a = b := by
 unfold cmpL
 split
 ·rename_i h; exact cmpI_zero h
 ·rename_i h
  have : a ≠ b := fun e => h (by rw [e])
  split <;> simp [this]
theorem compare65_is (na nb : Bool) (a b : List Int) (ca cb : Cp) (hl : a.length < 1000000) :
  PureIs prog 83 [.sl na (a.map intC) ca, .sl nb (b.map intC) cb] (.sc (.int .i64 (cmpL a b))) := by
 refine PureIs.of1 2 [4, 5, 10, 15, 19, 30, 39] func83 ntmps83 results83 fun _ => ?_
 refine EvC.a ?_
 refine EvC.seq ?_
 refine EvC.a ?_ (by simp only [go_sem, List.length_map] <;> rfl)
 unfold cmpL
 by_cases hlen : a.length = b.length
 rotate_left
 ·have hd : decide ((a.length : Int) = (b.length : Int)) = false := decide_eq_false (by omega)
  rw [if_neg hlen]
  refine EvC.ct ?_ (by simp only [go_sem, hd] <;> rfl)
  refine EvC.seq ?_
  refine EvC.a ?_ (by simp only [go_sem, List.length_map] <;> rfl)
  by_cases hlt : a.length < b.length
  ·have h2 : decide ((a.length : Int) < (b.length : Int)) = true := decide_eq_true (by omega)
   refine EvC.ct ?_ (by simp only [go_sem, h2] <;> rfl)
   refine EvC.a ?_
   rw [if_pos hlt]
   refine EvC.rz ?_
   simp only [go_sem]
  ·have h2 : decide ((a.length : Int) < (b.length : Int)) = false := decide_eq_false (by omega)
   refine EvC.cs ?_ (by simp only [go_sem, h2] <;> rfl)
   refine EvC.a ?_
   rw [if_neg hlt]
   refine EvC.rz ?_
   simp only [go_sem]
 have hd : decide ((a.length : Int) = (b.length : Int)) = true := decide_eq_true (by omega)
 rw [if_pos hlen]
 refine EvC.cs ?_ (by simp only [go_sem, hd] <;> rfl)
 refine EvC.seq ?_
 refine EvC.a ?_
 refine EvC.block ?_
 refine EvC.loopS (σ := Nat) (fun i => ⟨[(0, .sl na (a.map intC) ca), (1, .sl nb (b.map intC) cb), (5, .sc (.int .i64 i))], [], [], 0⟩) (fun i => a.length - i) (fun i => i ≤ a.length ∧ cmpI a b = cmpI (a.drop i) (b.drop i)) [0, 1, 5] 0 ?_ ?_
 ·exact ⟨[], 0, rfl, (by simp only [go_sem, Int.natCast_zero] <;> rfl), Nat.zero_le _, rfl⟩
 rintro i ⟨hi, hinv⟩
 refine EvC.seq ?_
 refine EvC.a ?_ (by simp only [go_sem, List.length_map] <;> rfl)
 refine EvC.cond (by simp only [go_sem] <;> rfl) (fun hc => ?_) (fun hc => ?_)
 rotate_left
 ·
  refine EvC.exit ?_
  obtain rfl : a.length = i := by have : ¬ i < a.length := by simpa using hc
                                  omega
  have h0 : cmpI a b = 0 := by rw [hinv, List.drop_length, hlen, List.drop_length]; rfl
  rw [h0]
  refine EvC.a ?_
  refine EvC.rz ?_
  simp only [go_sem]
 have hil : i < a.length := by simpa using hc
 clear hc
 have he : a[i]? = some (a[i]'hil) := List.getElem?_eq_getElem hil
 have hf : b[i]? = some (b[i]'(by omega)) := List.getElem?_eq_getElem (by omega)
 generalize a[i]'hil = x at he
 generalize b[i]'(by omega) = y at hf
 rw [list_step he, list_step hf, cmpI] at hinv
 have hin : (i : Int).toNat = i := Int.toNat_natCast i
 refine EvC.skip ?_
 refine EvC.seq ?_
 refine EvC.block ?_
 refine EvC.seq ?_
 refine EvC.d mixed ?_ (h := by simp only [go_sem, he, hf, intC, hin, List.length_map] <;> rfl) (hok := by simp; try omega)
 by_cases hxy : x < y
 ·have d1 : decide (x < y) = true := decide_eq_true hxy
  refine EvC.ct ?_ (by simp only [go_sem, d1] <;> rfl)
  refine EvC.a ?_
  rw [hinv, if_pos hxy]
  refine EvC.rz ?_
  simp only [go_sem]
 have d1 : decide (x < y) = false := decide_eq_false hxy
 refine EvC.cs ?_ (by simp only [go_sem, d1] <;> rfl)
 refine EvC.d mixed ?_ (h := by simp only [go_sem, he, hf, intC, hin, List.length_map] <;> rfl) (hok := by simp; try omega)
 by_cases hyx : y < x
 ·have d2 : decide (y < x) = true := decide_eq_true hyx
  refine EvC.ct ?_ (by simp only [go_sem, d2] <;> rfl)
  refine EvC.a ?_
  rw [hinv, if_neg hxy, if_pos hyx]
  refine EvC.rz ?_
  simp only [go_sem]
 have d2 : decide (y < x) = false := decide_eq_false hyx
 refine EvC.cs ?_ (by simp only [go_sem, d2] <;> rfl)
 refine EvC.b ?_ (hok := by exact inI64_of (by omega) (by omega))
 exact ⟨[], i + 1, rfl, (by simp only [go_sem, Int.natCast_add, Int.natCast_one] <;> rfl), ⟨hil, by rw [hinv, if_neg hxy, if_neg hyx]⟩, by omega⟩
abbrev RW := Bool × List Int × Cp
def rwC (r : RW) : List AV := [.sl r.1 (r.2.1.map intC) r.2.2]
@[go_sem] theorem norefs_rw (l : List RW) : (l.map rwC).all AV.norefs = true := by simp [List.all_eq_true, rwC, AV.norefs, AV.noref]
def sameW : List RW → List RW → Bool
 | [], [] => true
 | x :: a, y :: b => decide (x.2.1 = y.2.1) && sameW a b
 | _, _ => false
theorem sameW_eq : ∀ {a b : List RW}, sameW a b = decide (a.map (·.2.1) = b.map (·.2.1))
 | [], [] => by simp [sameW]
 | x :: a, [] => by simp [sameW]
 | [], y :: b => by simp [sameW]
 | x :: a, y :: b => by simp [sameW, sameW_eq (a := a) (b := b)]
theorem sameW_len {a b : List RW} (h : sameW a b = true) : a.length = b.length := by
 rw [sameW_eq, decide_eq_true_eq] at h
 simpa using congrArg List.length h
theorem same37_is (na nb : Bool) (a b : List RW) (ca cb : Cp) (hl : a.length < 1000000) (hk : ∀ x ∈ a, x.2.1.length < 1000000) :
  PureIs prog 55 [.sl na (a.map rwC) ca, .sl nb (b.map rwC) cb] (.sc (.bool (sameW a b))) := by
 refine PureIs.of1 2 [4, 5, 10, 14, 26] func55 ntmps55 results55 fun _ => ?_
 refine EvC.a ?_
 refine EvC.seq ?_
 refine EvC.a ?_ (by simp only [go_sem, List.length_map] <;> rfl)
 by_cases hlen : a.length = b.length
 rotate_left
 ·have hd : decide ((a.length : Int) = (b.length : Int)) = false := decide_eq_false (by omega)
  have hab : sameW a b = false := by
   cases h : sameW a b with
   | false => rfl
   | true => exact absurd (sameW_len h) hlen
  rw [hab]
  refine EvC.ct ?_ (by simp only [go_sem, hd] <;> rfl)
  refine EvC.a ?_
  refine EvC.rz ?_
  simp only [go_sem]
 have hd : decide ((a.length : Int) = (b.length : Int)) = true := decide_eq_true (by omega)
 refine EvC.cs ?_ (by simp only [go_sem, hd] <;> rfl)
 refine EvC.seq ?_
 refine EvC.a ?_
 refine EvC.block ?_
 refine EvC.loopS (σ := Nat) (fun i => ⟨[(0, .sl na (a.map rwC) ca), (1, .sl nb (b.map rwC) cb), (5, .sc (.int .i64 i))], [], [], 0⟩) (fun i => a.length - i) (fun i => i ≤ a.length ∧ sameW a b = sameW (a.drop i) (b.drop i)) [0, 1, 5] 0 ?_ ?_
 ·exact ⟨[], 0, rfl, (by simp only [go_sem, Int.natCast_zero] <;> rfl), Nat.zero_le _, rfl⟩
 rintro i ⟨hi, hinv⟩
 refine EvC.seq ?_
 refine EvC.a ?_ (by simp only [go_sem, List.length_map] <;> rfl)
 refine EvC.cond (by simp only [go_sem] <;> rfl) (fun hc => ?_) (fun hc => ?_)
 rotate_left
 ·
  refine EvC.exit ?_
  obtain rfl : a.length = i := by have : ¬ i < a.length := by simpa using hc
                                  omega
  have h0 : sameW a b = true := by rw [hinv, List.drop_length, hlen, List.drop_length]; rfl
  rw [h0]
  refine EvC.a ?_
  refine EvC.rz ?_
  simp only [go_sem]
 have hil : i < a.length := by simpa using hc
 clear hc
 have he : a[i]? = some (a[i]'hil) := List.getElem?_eq_getElem hil
 have hf : b[i]? = some (b[i]'(by omega)) := List.getElem?_eq_getElem (by omega)
 have hx := hk _ (List.getElem_mem hil)
 generalize a[i]'hil = x at he hx
 generalize b[i]'(by omega) = y at hf
 rw [list_step he, list_step hf, sameW] at hinv
 have hin : (i : Int).toNat = i := Int.toNat_natCast i
 have q := compare65_is x.1 y.1 x.2.1 y.2.1 x.2.2 y.2.2 hx
 have hz := cmpL_zero (a := x.2.1) (b := y.2.1)
 generalize cmpL x.2.1 y.2.1 = z at q hz
 refine EvC.skip ?_
 refine EvC.seq ?_
 refine EvC.block ?_
 refine EvC.k1D mixed ?_ (h1 := by simp only [go_sem, he, hf, rwC, hin, List.length_map] <;> rfl) (k1 := by simp; try omega) (c1 := .ca q)
 by_cases hxy : x.2.1 = y.2.1
 ·have d1 : z = 0 := hz.2 hxy
  refine EvC.cs ?_ (by simp only [go_sem, d1] <;> rfl)
  refine EvC.b ?_ (hok := by exact inI64_of (by omega) (by omega))
  exact ⟨[], i + 1, rfl, (by simp only [go_sem, Int.natCast_add, Int.natCast_one] <;> rfl), ⟨hil, by rw [hinv, decide_eq_true hxy, Bool.true_and]⟩, by omega⟩
 ·have d1 : decide (z = 0) = false := decide_eq_false fun h => hxy (hz.1 h)
  refine EvC.ct ?_ (by simp only [go_sem, d1] <;> rfl)
  refine EvC.a ?_
  rw [hinv, decide_eq_false hxy, Bool.false_and]
  refine EvC.rz ?_
  simp only [go_sem]
@[go_sem] theorem norefs_faL (l : List FA) : (l.map FA.cells).all AV.norefs = true := by simp [List.all_eq_true, FA.cells, AV.norefs, AV.noref]
def apF (a b : List FA) : List FA := a ++ b
theorem apF_nil (a : List FA) : apF a [] = a := List.append_nil a
theorem apF_app (a b c : List FA) : apF a (b ++ c) = apF (apF a b) c := (List.append_assoc a b c).symm
theorem apF_len (a b : List FA) : (apF a b).length = a.length + b.length := List.length_append
def u8C (x : Int) : List AV := [.sc (.int .u8 x)]
@[go_sem] theorem norefs_u8 (l : List Int) : (l.map u8C).all AV.norefs = true := by simp [List.all_eq_true, u8C, AV.norefs, AV.noref]
def wbR (x : Bool × List Int) : List AV := [.sl x.1 (x.2.map u8C) .unk]
def boolC (b : Bool) : List AV := [.sc (.bool b)]
@[go_sem] theorem norefs_bool (l : List Bool) : (l.map boolC).all AV.norefs = true := by simp [List.all_eq_true, boolC, AV.norefs, AV.noref]
def ex (xs : List (Int × Int)) (a : Nat) : Int × Int := xs[a]?.getD (-1, -1)
theorem fits_cases {n o a b : Int} (h : fitsR n o a b = true) : (a = -1 ∧ b = -1) ∨ (0 ≤ a ∧ a < n ∧ 0 ≤ b ∧ b < o) := by
 unfold fitsR at h; simp at h; omega
structure WV (m : Mach) : Prop where
 ins : 1 ≤ m.ins ∧ m.ins ≤ 16
 rows : 1 ≤ m.rows.length ∧ m.rows.length ≤ 1000
 row : ∀ r ∈ m.rows, (r.2.length : Int) = m.ins ∧ ∀ e ∈ r.2, fitsR m.rows.length m.outs e.1 e.2 = true
theorem Valid.w {m : Mach} (h : Valid m) : WV m := ⟨h.ins, ⟨h.rows.1, by have := h.rows.2; omega⟩, h.row⟩
abbrev Mtx := Nat → Nat → Bool
def mrow (cp : Cp) (n : Nat) (M : Mtx) (i : Nat) : List AV := [.sl false (((List.range n).map (M i)).map boolC) cp]
@[go_sem] theorem norefs_mrow (cp : Cp) (n : Nat) (M : Mtx) (l : List Nat) : (l.map (mrow cp n M)).all AV.norefs = true := by
 rw [List.all_eq_true]
 intro y hy
 obtain ⟨i, _, rfl⟩ := List.mem_map.1 hy
 simp only [mrow, AV.norefs, AV.noref, norefs_bool, Bool.and_self]
def mtab (n : Nat) (M : Mtx) (i : Nat) : List (List AV) := (List.range i).map (mrow .unk n M)
@[go_sem] theorem norefs_mtab (n : Nat) (M : Mtx) (i : Nat) : (mtab n M i).all AV.norefs = true := norefs_mrow _ _ _ _
@[go_sem] theorem mtab_ren (n : Nat) (M : Mtx) (i : Nat) (ρ : List (Nat × Nat)) : (mtab n M i).map (fun c => c.map (AV.ren ρ)) = mtab n M i := by
 rw [mtab, List.map_map]
 refine List.map_congr_left fun k _ => ?_
 simp only [Function.comp, mrow, List.map_cons, List.map_nil]
 rfl
def orR : List Int → Int
 | [] => 0
 | x :: xs => if x ≠ 0 then x else orR xs
theorem or_is (nl : Bool) (xs : List Int) (c : Cp) (hl : xs.length < 1000000) : PureIs prog 121 [.sl nl (xs.map intC) c] (.sc (.int .i64 (orR xs))) := by
 refine PureIs.of1 6 [6, 7, 8, 9, 14] func121 ntmps121 results121 fun _ => ?_
 refine EvC.seq (EvC.rg (by simp only [go_sem] <;> rfl) rfl ?_)
 refine EvC.seq (EvC.rg (by simp only [go_sem] <;> rfl) rfl ?_)
 refine EvC.seq ?_
 refine EvC.seq (EvC.rg (by simp only [go_sem] <;> rfl) rfl ?_)
 refine EvC.block (EvC.loopS (σ := Nat) (fun i => ⟨[(3, .sc (.int .i64 0)), (6, .sl nl (xs.map intC) c), (7, .sc (.int .i64 xs.length)), (8, .sc (.int .i64 i))], [], [], 0⟩) (fun i => xs.length - i) (fun i => i ≤ xs.length ∧ orR xs = orR (xs.drop i)) [3, 6, 7, 8] 0 ?_ ?_)
 ·refine ⟨[], 0, rfl, (by simp only [go_sem] <;> rfl), Nat.zero_le _, by simp⟩
 rintro i ⟨h1, h2⟩
 refine EvC.seq (EvC.rg (by simp only [go_sem] <;> rfl) rfl ?_)
 refine EvC.seq (EvC.cond (by simp only [go_sem] <;> rfl) (fun hc => ?_) (fun hc => ?_))
 ·refine EvC.skip ?_
  have hi : i < xs.length := by simpa using hc
  have he : xs[i]? = some xs[i] := List.getElem?_eq_getElem hi
  generalize xs[i] = e at he
  have hd : xs.drop i = e :: xs.drop (i + 1) := by
   rw [List.drop_eq_getElem_cons hi]; congr 1; rw [List.getElem?_eq_getElem hi] at he; simpa using he
  refine EvC.seq ?_
  refine EvC.block (EvC.seq (EvC.rg (by simp only [go_sem, he, intC] <;> rfl) (by simp) ?_))
  refine EvC.a ?_
  refine EvC.cond (by simp only [go_sem] <;> rfl) (fun hc1 => ?_) (fun hc1 => ?_)
  ·refine EvC.seq (EvC.rg (by simp only [go_sem] <;> rfl) rfl ?_)
   refine EvC.rz ?_
   simp only [go_sem]
   rw [h2, hd, orR, if_pos (by simpa using hc1)]
  refine EvC.skip ?_
  refine EvC.rg (by simp only [go_sem] <;> rfl) ?_ ?_
  ·exact inI64_of (by omega) (by omega)
  refine ⟨[], i + 1, rfl, (by simp only [go_sem] <;> rfl), ⟨by omega, ?_⟩, by omega⟩
  rw [h2, hd, orR, if_neg (by simpa using hc1)]
 ·refine EvC.exit ?_
  have hi : ¬ i < xs.length := by simpa using hc
  refine EvC.seq (EvC.rg (by simp only [go_sem] <;> rfl) rfl ?_)
  refine EvC.rz ?_
  simp only [go_sem]
  rw [h2, List.drop_of_length_le (by omega)]; rfl
def bothR (a b : Mach) : Int := if checkM a ≠ 0 then checkM a else if checkM b ≠ 0 then checkM b else if a.ins ≠ b.ins then 5 else 0
theorem both_is (a b : Mach) (ha : ∀ r ∈ a.rows, r.2.length < 1000000) (hb : ∀ r ∈ b.rows, r.2.length < 1000000) : PureIs prog 105 [.ag a.cells, .ag b.cells] (.sc (.int .i64 (bothR a b))) := by
 refine PureIs.of1 6 [20] func105 ntmps105 results105 fun _ => ?_
 refine EvC.seq (EvC.rg (by simp only [go_sem, Mach.cells] <;> rfl) rfl ?_)
 apply EvC.seq
 apply EvC.drw mixed
 ·apply Tr.run
  ·simp only [go_sem] <;> rfl
  ·simp
  apply Tr.cons
  ·exact .ca (check_is a ha)
  apply Tr.run
  ·simp only [go_sem] <;> rfl
  ·simp
  apply Tr.cons
  ·exact .ca (check_is b hb)
  apply Tr.run
  ·simp only [go_sem, List.set_cons_zero, List.set_cons_succ] <;> rfl
  ·simp
  apply Tr.cons
  ·exact .ca (or_is false [checkM a, checkM b] .full (by simp))
  apply Tr.done
  ·simp only [go_sem] <;> rfl
  ·simp
 ·kernel_rfl
 apply EvC.seq
 apply EvC.seq
 apply EvC.trd
 ·simp only [go_sem] <;> rfl
 ·simp
 have ho : orR [checkM a, checkM b] = if checkM a ≠ 0 then checkM a else checkM b := by
  unfold orR orR orR; by_cases h : checkM a = 0 <;> simp [h] <;> omega
 refine EvC.cond (by simp only [go_sem] <;> rfl) (fun hc => ?_) (fun hc => ?_)
 ·refine EvC.rg (by simp only [go_sem] <;> rfl) rfl ?_
  refine EvC.seq (EvC.rg (by simp only [go_sem] <;> rfl) rfl ?_)
  refine EvC.rz ?_
  simp only [go_sem]
  rw [ho] at hc
  have : bothR a b = 5 := by unfold bothR; grind
  rw [this]
 ·refine EvC.skip ?_
  refine EvC.seq (EvC.rg (by simp only [go_sem] <;> rfl) rfl ?_)
  refine EvC.rz ?_
  simp only [go_sem]
  rw [ho] at hc ⊢
  have : bothR a b = if checkM a ≠ 0 then checkM a else checkM b := by unfold bothR; grind
  rw [this]
theorem index49_is (nl : Bool) (xs : List (Int × Int)) (c : Cp) (v : Int × Int) (hl : xs.length < 1000000) :
  PureIs prog 130 [.sl nl (xs.map edgeC) c, edgeA v] (.sc (.int .i64 (findIdxR (fun e => decide (e = v)) xs 0))) := by
 refine PureIs.of1 2 [3, 4, 5, 7, 8, 9, 16] func130 ntmps130 results130 fun _ => ?_
 refine EvC.a ?_ (by simp only [go_sem, edgeA] <;> rfl)
 refine EvC.seq ?_
 refine EvC.a ?_
 refine EvC.block ?_
 refine EvC.loopS (σ := Nat) (fun i => ⟨[(0, .sl nl (xs.map edgeC) c), (3, .rf 0 0), (7, .sc (.int .i64 xs.length)), (8, .sc (.int .i64 i))], [], [(0, .cells (edgeC v))], 1⟩) (fun i => xs.length - i)
  (fun i => i ≤ xs.length ∧ findIdxR (fun e => decide (e = v)) xs 0 = findIdxR (fun e => decide (e = v)) (xs.drop i) i) [0, 3, 7, 8] 1 ?_ ?_
 ·refine ⟨[(0, 0)], 0, rfl, (by simp only [go_sem, edgeC] <;> rfl), Nat.zero_le _, by simp⟩
 rintro i ⟨h1, h2⟩
 refine EvC.a ?_
 refine EvC.seq ?_
 refine EvC.cond (by simp only [go_sem] <;> rfl) (fun hc => ?_) (fun hc => ?_)
 rotate_left
 ·refine EvC.exit ?_
  have hi : ¬ i < xs.length := by simpa using hc
  refine EvC.a ?_
  refine EvC.rz ?_
  simp only [go_sem]
  rw [h2, List.drop_of_length_le (by omega)]; rfl
 refine EvC.skip ?_
 have hi : i < xs.length := by simpa using hc
 have he : xs[i]? = some xs[i] := List.getElem?_eq_getElem hi
 have hd : xs.drop i = xs[i] :: xs.drop (i + 1) := List.drop_eq_getElem_cons hi
 generalize xs[i] = e at he hd
 refine EvC.seq ?_
 refine EvC.block ?_
 refine EvC.a ?_
 apply EvC.seq
 apply EvC.drd mixed
 ·simp only [go_sem, he, edgeC] <;> rfl
 ·simp
 ·kernel_rfl
 have hev : (decide (v.1 = e.1) && (decide (v.2 = e.2) && true)) = decide (e = v) := by
  obtain ⟨a, b⟩ := e; obtain ⟨c, d⟩ := v
  by_cases h1 : a = c <;> by_cases h2 : b = d <;> simp [h1, h2, eq_comm]
 refine EvC.cond (by simp only [go_sem] <;> rfl) (fun hc => ?_) (fun hc => ?_)
 ·refine EvC.a ?_
  refine EvC.rz ?_
  simp only [go_sem]
  have : decide (e = v) = true := by rw [← hev]; simpa using hc
  rw [h2, hd, findIdxR, if_pos this]
 refine EvC.skip ?_
 refine EvC.b ?_ (hok := inI64_of (by omega) (by omega))
 refine ⟨[(0, 0)], i + 1, rfl, (by simp only [go_sem] <;> rfl), ⟨by omega, ?_⟩, by omega⟩
 have : ¬ decide (e = v) = true := by rw [← hev]; simpa using hc
 rw [h2, hd, findIdxR, if_neg this]; rfl
theorem any_mem (xs : List (Int × Int)) (v : Int × Int) : (xs.any fun e => decide (e = v)) = decide (v ∈ xs) := by
 rw [Bool.eq_iff_iff]; simp
theorem contains46_is (nl : Bool) (xs : List (Int × Int)) (c : Cp) (v : Int × Int) (hl : xs.length < 1000000) :
  PureIs prog 124 [.sl nl (xs.map edgeC) c, edgeA v] (.sc (.bool (decide (v ∈ xs)))) := by
 refine PureIs.of1 2 [3, 4] func124 ntmps124 results124 fun _ => ?_
 refine EvC.a ?_ (by simp only [go_sem, edgeA] <;> rfl)
 apply EvC.seq
 apply EvC.tr
 ·apply Tr.run
  ·simp only [go_sem] <;> rfl
  ·simp
  apply Tr.cons
  ·exact .ca (index49_is nl xs c v hl)
  apply Tr.done
  ·simp only [go_sem] <;> rfl
  ·simp
 refine EvC.rz ?_
 simp only [go_sem]
 rw [findIdxR_any _ _ _ (Int.le_refl 0), any_mem]
abbrev Arr := (Int × Int) × Int × Int
def arrC (a : Arr) : List AV := [.sc (.int .i64 a.1.1), .sc (.int .i64 a.1.2), .sc (.int .i64 a.2.1), .sc (.int .i64 a.2.2)]
@[go_sem] theorem norefs_arrs (l : List Arr) : (l.map arrC).all AV.norefs = true := by simp [List.all_eq_true, arrC, AV.norefs, AV.noref]
def wordR (l : List Arr) : Nat → Int → List Int → List Int
 | 0, _, acc => acc
 | n + 1, at', acc => match l[at'.toNat]? with
   | some a => if a.2.1 = -1 then acc else wordR l n a.2.1 (a.2.2 :: acc)
   | none => acc
def WfArr (l : List Arr) : Prop := ∀ (i : Nat) (a : Arr), l[i]? = some a → -1 ≤ a.2.1 ∧ a.2.1 < i
theorem word_is (nl : Bool) (l : List Arr) (c : Cp) (hw : WfArr l) (at' : Int) (h0 : 0 ≤ at') (ha : at' < l.length) (acc : List Int) (c2 : Cp) (hl : l.length + acc.length < 1000000) :
  PureIs prog 123 [.sl nl (l.map arrC) c, .sc (.int .i64 at'), .sl false (acc.map intC) c2] (.sl false ((wordR l l.length at' acc).map intC) .full) := by
 refine PureIs.of1 3 [6, 12] func123 ntmps123 results123 fun _ => ?_
 refine EvC.a ?_
 refine EvC.seq ?_
 refine EvC.block ?_
 refine EvC.loopS (σ := Int × List Int × Cp) (fun g => ⟨[(0, .sl nl (l.map arrC) c), (1, .sc (.int .i64 g.1)), (2, .sl false (g.2.1.map intC) g.2.2)], [], [], 0⟩) (fun g => g.1.toNat)
  (fun g => 0 ≤ g.1 ∧ g.1 < l.length ∧ g.2.1.length + g.1 < 1000000 ∧ ∃ n : Nat, g.1 < n ∧ wordR l l.length at' acc = wordR l n g.1 g.2.1) [0, 1, 2] 0 ?_ ?_
 ·refine ⟨[], (at', acc, c2), rfl, (by simp only [go_sem] <;> rfl), h0, ha, ?_, l.length, by omega, rfl⟩
  simp only; omega
 rintro ⟨t, xs, c3⟩ ⟨h1, h2, h3, n, h4, h5⟩
 simp only at h1 h2 h3 h4 h5
 have hi : t.toNat < l.length := by omega
 have he : l[t.toNat]? = some l[t.toNat] := List.getElem?_eq_getElem hi
 generalize l[t.toNat] = a at he
 obtain ⟨w1, w2⟩ := hw _ _ he
 refine EvC.seq ?_
 refine EvC.a ?_ (by simp only [go_sem, he, arrC] <;> rfl) (by simp [h1])
 refine EvC.cond (by simp only [go_sem] <;> rfl) (fun hc => ?_) (fun hc => ?_)
 rotate_left
 ·refine EvC.exit ?_
  have hc : a.2.1 = -1 := by simpa using hc
  apply EvC.seq
  apply EvC.tr
  ·apply Tr.run
   ·simp only [go_sem] <;> rfl
   ·simp
   apply Tr.cons
   ·exact .ca (clipI_is false (xs.map intC) c3 (by simp [intC]))
   apply Tr.done
   ·simp only [go_sem] <;> rfl
   ·simp
  refine EvC.rz ?_
  simp only [go_sem]
  rw [h5]
  obtain ⟨m, rfl⟩ : ∃ m, n = m + 1 := ⟨n - 1, by omega⟩
  simp only [wordR, he, hc, if_true]
 have hc : a.2.1 ≠ -1 := by simpa using hc
 refine EvC.skip ?_
 refine EvC.block ?_
 refine EvC.seq (EvC.rg (by simp only [go_sem, he, arrC, List.set_cons_zero] <;> rfl) ?_ ?_)
 ·have hx : xs.length < 1000000 := by omega
  simp [h1, room_eq, intC, AV.norefs, AV.noref]; omega
 refine EvC.b ?_ (by simp only [go_sem, he, arrC] <;> rfl) (by simp [h1])
 refine ⟨[], (a.2.1, a.2.2 :: xs, .unk), rfl, (by simp only [go_sem, intC] <;> rfl), ⟨?_, ?_, ?_, n - 1, ?_, ?_⟩, ?_⟩
 all_goals simp only [List.length_cons]
 ·omega
 ·omega
 ·omega
 ·omega
 ·rw [h5]
  obtain ⟨m, rfl⟩ : ∃ m, n = m + 1 := ⟨n - 1, by omega⟩
  simp only [wordR, he, if_neg hc, Nat.add_sub_cancel]
 ·omega
theorem nodup_bound : ∀ (n : Nat) (l : List Nat), l.Nodup → (∀ x ∈ l, x < n) → l.length ≤ n
 | 0, [], _, _ => Nat.le_refl _
 | 0, x :: _, _, h => absurd (h x List.mem_cons_self) (Nat.not_lt_zero _)
 | n + 1, l, hn, h => by
   have h1 := nodup_bound n (l.filter (fun x => decide (x ≠ n))) (hn.filter _) fun x hx => by
    obtain ⟨h2, h3⟩ := List.mem_filter.1 hx
    have := h x h2
    have h3 : x ≠ n := by simpa using h3
    omega
   have h2 : (l.filter (fun x => decide (x = n))).length ≤ 1 := by
    have h3 : ∀ x ∈ l.filter (fun x => decide (x = n)), x = n := fun x hx => by simpa using (List.mem_filter.1 hx).2
    have h4 := hn.filter (fun x => decide (x = n))
    generalize l.filter (fun x => decide (x = n)) = m at h3 h4
    match m, h3, h4 with
    | [], _, _ => simp
    | [_], _, _ => simp
    | x :: y :: m, h3, h4 =>
      have e1 := h3 x (by simp)
      have e2 := h3 y (by simp)
      subst e1; subst e2
      simp at h4
   have h3 : l.length = (l.filter (fun x => decide (x ≠ n))).length + (l.filter (fun x => decide (x = n))).length := by
    clear hn h h1 h2
    induction l with
    | nil => rfl
    | cons x l ih =>
      by_cases hx : x = n <;> simp [List.filter_cons, hx, ih] <;> omega
   omega
theorem pairs_bound (l : List (Int × Int)) (hn : l.Nodup) (h : ∀ p ∈ l, 0 ≤ p.1 ∧ p.1 < 64 ∧ 0 ≤ p.2 ∧ p.2 < 64) : l.length ≤ 4096 := by
 have := nodup_bound 4096 (l.map fun p => p.1.toNat * 64 + p.2.toNat) (by
  refine List.Pairwise.map _ (R := fun a b => a ∈ l ∧ b ∈ l ∧ a ≠ b) ?_ ?_
  ·rintro ⟨a, b⟩ ⟨c, d⟩ ⟨h1, h2, h3⟩ h4
   have k1 := h _ h1
   have k2 := h _ h2
   simp only at k1 k2 h4
   exact h3 (by rw [Prod.mk.injEq]; omega)
  ·exact List.Pairwise.imp_of_mem (fun h1 h2 h3 => ⟨h1, h2, h3⟩) hn) (by
  intro x hx
  obtain ⟨p, hp, rfl⟩ := List.mem_map.1 hx
  have := h p hp; omega)
 simpa using this
structure Yld where
 at' : Int
 inp : Int
 x : Int × Int
 y : Int × Int
 l : List Arr
def meetA (z : Yld) : AV := .ag [.sc (.int .i64 z.at'), .sc (.int .i64 z.inp), .sc (.int .i64 z.x.1), .sc (.int .i64 z.x.2), .sc (.int .i64 z.y.1), .sc (.int .i64 z.y.2)]
def yldC (z : Yld) : List AV := [meetA z, .sl false (z.l.map arrC) .unk]
def nextL (at' i : Int) (x y : Int × Int) (l : List Arr) : List Arr :=
 if x.1 ≠ -1 ∧ y.1 ≠ -1 ∧ (x.1, y.1) ∉ l.map (·.1) then l ++ [((x.1, y.1), at', i)] else l
def inR (a b : Mach) (at' s t : Int) : Nat → Nat → List Arr → List Yld × List Arr
 | 0, _, l => ([], l)
 | n + 1, i, l => (⟨at', i, stepR a s i, stepR b t i, l⟩ :: (inR a b at' s t n (i + 1) (nextL at' i (stepR a s i) (stepR b t i) l)).1, (inR a b at' s t n (i + 1) (nextL at' i (stepR a s i) (stepR b t i) l)).2)
def outR (a b : Mach) : Nat → Nat → List Arr → List Yld
 | 0, _, _ => []
 | n + 1, at', l => match l[at']? with
   | none => []
   | some p => (inR a b at' p.1.1 p.1.2 a.ins.toNat 0 l).1 ++ outR a b n (at' + 1) (inR a b at' p.1.1 p.1.2 a.ins.toNat 0 l).2
def arr0 : List Arr := [((0, 0), -1, 0)]
def meetsR (a b : Mach) : List Yld := outR a b 5000 0 arr0
structure GoodL (a b : Mach) (l : List Arr) : Prop where
 nd : (l.map (·.1)).Nodup
 rng : ∀ p ∈ l, 0 ≤ p.1.1 ∧ p.1.1 < a.rows.length ∧ 0 ≤ p.1.2 ∧ p.1.2 < b.rows.length
 wf : WfArr l
theorem GoodL.len {a b : Mach} (ha : Valid a) (hb : Valid b) {l : List Arr} (h : GoodL a b l) : l.length ≤ 4096 := by
 have := pairs_bound (l.map (·.1)) h.nd fun p hp => by
  obtain ⟨q, hq, rfl⟩ := List.mem_map.1 hp
  have := h.rng q hq
  have h1 := ha.rows; have h2 := hb.rows; omega
 simpa using this
theorem GoodL.zero {a b : Mach} (ha : Valid a) (hb : Valid b) : GoodL a b arr0 := by
 have h1 := ha.rows
 have h2 := hb.rows
 refine ⟨by simp [arr0], ?_, ?_⟩
 ·intro p hp
  simp only [arr0, List.mem_singleton] at hp
  subst hp
  simp only; omega
 ·intro i p hp
  cases i with
  | zero => simp only [arr0, List.getElem?_cons_zero, Option.some.injEq] at hp; subst hp; simp
  | succ i => simp [arr0] at hp
theorem GoodL.next {a b : Mach} (ha : Valid a) (hb : Valid b) {l : List Arr} (h : GoodL a b l) {at' : Nat} (hat : at' < l.length) {i : Int} {s t : Int} (hs : 0 ≤ s ∧ s < a.rows.length) (ht : 0 ≤ t ∧ t < b.rows.length) (hi : 0 ≤ i ∧ i < a.ins) (hab : a.ins = b.ins) :
  GoodL a b (nextL at' i (stepR a s i) (stepR b t i) l) ∧ at' < (nextL at' i (stepR a s i) (stepR b t i) l).length := by
 unfold nextL
 split
 ·rename_i hx
  obtain ⟨h1, h2, h3⟩ := hx
  obtain ⟨_, _, _, _, e1, f1⟩ := stepR_get ha hs.1 hs.2 hi
  obtain ⟨_, _, _, _, e2, f2⟩ := stepR_get hb ht.1 ht.2 (by rw [← hab]; exact hi)
  rw [← e1] at f1
  rw [← e2] at f2
  refine ⟨⟨?_, ?_, ?_⟩, by simp; omega⟩
  ·rw [List.map_append, List.nodup_append]
   refine ⟨h.nd, by simp, ?_⟩
   rintro p hp q hq rfl
   simp only [List.map_cons, List.map_nil, List.mem_singleton] at hq
   subst hq
   exact h3 hp
  ·intro p hp
   rcases List.mem_append.1 hp with hp | hp
   ·exact h.rng p hp
   ·simp only [List.mem_singleton] at hp
    subst hp
    unfold fitsR at f1 f2
    simp at f1 f2
    simp only; omega
  ·intro j p hp
   by_cases hj : j < l.length
   ·rw [List.getElem?_append_left hj] at hp; exact h.wf j p hp
   ·rw [List.getElem?_append_right (by omega)] at hp
    by_cases h0 : j - l.length = 0
    ·rw [h0] at hp
     simp only [List.getElem?_cons_zero, Option.some.injEq] at hp
     subst hp
     simp only; omega
    ·obtain ⟨m, hm⟩ : ∃ m, j - l.length = m + 1 := ⟨j - l.length - 1, by omega⟩
     rw [hm] at hp; simp at hp
 ·exact ⟨h, hat⟩
end Go.Avl
