/- Facts on the types of the program, each looked up in it. -/
import Derived.Test.YtglldabpgobimaaGreatDoorVmSet
import Derived.Test.YtglldabpgobimaaGreatDoorProg
import Derived.KernelRfl
namespace Go.Proofs.YtglldabpgobimaaGreatDoor.Ty
open Go Go.VM
set_option maxRecDepth 100000
theorem cells_2 : Tryz.prog.cellsOf 2 = 1 := by kernel_rfl
theorem bytes_2 : Tryz.prog.bytesOf 2 = 8 := by kernel_rfl
theorem scal_2 : isScalarT Tryz.prog 2 = true := by kernel_rfl
theorem zero_2 : zeroV Tryz.prog 2 = some (.int .i64 0) := by kernel_rfl
theorem cells_3 : Tryz.prog.cellsOf 3 = 1 := by kernel_rfl
theorem bytes_3 : Tryz.prog.bytesOf 3 = 8 := by kernel_rfl
theorem scal_3 : isScalarT Tryz.prog 3 = true := by kernel_rfl
theorem zero_3 : zeroV Tryz.prog 3 = some (.int .i64 0) := by kernel_rfl
theorem cells_4 : Tryz.prog.cellsOf 4 = 1 := by kernel_rfl
theorem bytes_4 : Tryz.prog.bytesOf 4 = 1 := by kernel_rfl
theorem scal_4 : isScalarT Tryz.prog 4 = true := by kernel_rfl
theorem zero_4 : zeroV Tryz.prog 4 = some (.bool false) := by kernel_rfl
theorem cells_5 : Tryz.prog.cellsOf 5 = 1 := by kernel_rfl
theorem bytes_5 : Tryz.prog.bytesOf 5 = 1 := by kernel_rfl
theorem scal_5 : isScalarT Tryz.prog 5 = true := by kernel_rfl
theorem zero_5 : zeroV Tryz.prog 5 = some (.int .u8 0) := by kernel_rfl
theorem cells_9 : Tryz.prog.cellsOf 9 = 1 := by kernel_rfl
theorem bytes_9 : Tryz.prog.bytesOf 9 = 16 := by kernel_rfl
theorem scal_9 : isScalarT Tryz.prog 9 = true := by kernel_rfl
theorem zero_9 : zeroV Tryz.prog 9 = some (.str []) := by kernel_rfl
theorem cells_21 : Tryz.prog.cellsOf 21 = 1 := by kernel_rfl
theorem bytes_21 : Tryz.prog.bytesOf 21 = 4 := by kernel_rfl
theorem scal_21 : isScalarT Tryz.prog 21 = true := by kernel_rfl
theorem zero_21 : zeroV Tryz.prog 21 = some (.int .i32 0) := by kernel_rfl
theorem cells_22 : Tryz.prog.cellsOf 22 = 1 := by kernel_rfl
theorem bytes_22 : Tryz.prog.bytesOf 22 = 24 := by kernel_rfl
theorem scal_22 : isScalarT Tryz.prog 22 = true := by kernel_rfl
theorem zero_22 : zeroV Tryz.prog 22 = some (.nils 4) := by kernel_rfl
theorem cells_23 : Tryz.prog.cellsOf 23 = 1 := by kernel_rfl
theorem bytes_23 : Tryz.prog.bytesOf 23 = 24 := by kernel_rfl
theorem scal_23 : isScalarT Tryz.prog 23 = true := by kernel_rfl
theorem zero_23 : zeroV Tryz.prog 23 = some (.nils 2) := by kernel_rfl
theorem cells_25 : Tryz.prog.cellsOf 25 = 7 := by kernel_rfl
theorem bytes_25 : Tryz.prog.bytesOf 25 = 96 := by kernel_rfl
theorem str_25 : isStruct Tryz.prog 25 = true := by kernel_rfl
theorem ff_25 : fieldsFlat Tryz.prog 25 = true := by kernel_rfl
theorem fld_25_0 : fieldAt Tryz.prog 25 0 = true := by kernel_rfl
theorem sfld_25_0 : scalarField Tryz.prog 25 0 = true := by kernel_rfl
theorem fld_25_1 : fieldAt Tryz.prog 25 1 = true := by kernel_rfl
theorem sfld_25_1 : scalarField Tryz.prog 25 1 = true := by kernel_rfl
theorem fld_25_2 : fieldAt Tryz.prog 25 2 = true := by kernel_rfl
theorem sfld_25_2 : scalarField Tryz.prog 25 2 = true := by kernel_rfl
theorem fld_25_3 : fieldAt Tryz.prog 25 3 = true := by kernel_rfl
theorem sfld_25_3 : scalarField Tryz.prog 25 3 = true := by kernel_rfl
theorem fld_25_4 : fieldAt Tryz.prog 25 4 = true := by kernel_rfl
theorem sfld_25_4 : scalarField Tryz.prog 25 4 = true := by kernel_rfl
theorem fld_25_5 : fieldAt Tryz.prog 25 5 = true := by kernel_rfl
theorem sfld_25_5 : scalarField Tryz.prog 25 5 = true := by kernel_rfl
theorem fld_25_6 : fieldAt Tryz.prog 25 6 = true := by kernel_rfl
theorem sfld_25_6 : scalarField Tryz.prog 25 6 = true := by kernel_rfl
theorem zero_25 : zeroV Tryz.prog 25 = some (.agg [.str [], .int .i64 0, .int .i64 0, .int .i64 0, .nils 4, .nils 2, .int .i64 0]) := by kernel_rfl
theorem cells_26 : Tryz.prog.cellsOf 26 = 1 := by kernel_rfl
theorem bytes_26 : Tryz.prog.bytesOf 26 = 24 := by kernel_rfl
theorem scal_26 : isScalarT Tryz.prog 26 = true := by kernel_rfl
theorem zero_26 : zeroV Tryz.prog 26 = some (.nils 3) := by kernel_rfl
theorem cells_29 : Tryz.prog.cellsOf 29 = 1 := by kernel_rfl
theorem bytes_29 : Tryz.prog.bytesOf 29 = 24 := by kernel_rfl
theorem scal_29 : isScalarT Tryz.prog 29 = true := by kernel_rfl
theorem zero_29 : zeroV Tryz.prog 29 = some (.nils 2) := by kernel_rfl
theorem cells_31 : Tryz.prog.cellsOf 31 = 1 := by kernel_rfl
theorem bytes_31 : Tryz.prog.bytesOf 31 = 24 := by kernel_rfl
theorem scal_31 : isScalarT Tryz.prog 31 = true := by kernel_rfl
theorem zero_31 : zeroV Tryz.prog 31 = some (.nils 4) := by kernel_rfl
theorem cells_32 : Tryz.prog.cellsOf 32 = 1 := by kernel_rfl
theorem bytes_32 : Tryz.prog.bytesOf 32 = 24 := by kernel_rfl
theorem scal_32 : isScalarT Tryz.prog 32 = true := by kernel_rfl
theorem zero_32 : zeroV Tryz.prog 32 = some (.nils 2) := by kernel_rfl
theorem cells_34 : Tryz.prog.cellsOf 34 = 7 := by kernel_rfl
theorem bytes_34 : Tryz.prog.bytesOf 34 = 96 := by kernel_rfl
theorem str_34 : isStruct Tryz.prog 34 = true := by kernel_rfl
theorem ff_34 : fieldsFlat Tryz.prog 34 = true := by kernel_rfl
theorem fld_34_0 : fieldAt Tryz.prog 34 0 = true := by kernel_rfl
theorem sfld_34_0 : scalarField Tryz.prog 34 0 = true := by kernel_rfl
theorem fld_34_1 : fieldAt Tryz.prog 34 1 = true := by kernel_rfl
theorem sfld_34_1 : scalarField Tryz.prog 34 1 = true := by kernel_rfl
theorem fld_34_2 : fieldAt Tryz.prog 34 2 = true := by kernel_rfl
theorem sfld_34_2 : scalarField Tryz.prog 34 2 = true := by kernel_rfl
theorem fld_34_3 : fieldAt Tryz.prog 34 3 = true := by kernel_rfl
theorem sfld_34_3 : scalarField Tryz.prog 34 3 = true := by kernel_rfl
theorem fld_34_4 : fieldAt Tryz.prog 34 4 = true := by kernel_rfl
theorem sfld_34_4 : scalarField Tryz.prog 34 4 = true := by kernel_rfl
theorem fld_34_5 : fieldAt Tryz.prog 34 5 = true := by kernel_rfl
theorem sfld_34_5 : scalarField Tryz.prog 34 5 = true := by kernel_rfl
theorem fld_34_6 : fieldAt Tryz.prog 34 6 = true := by kernel_rfl
theorem sfld_34_6 : scalarField Tryz.prog 34 6 = true := by kernel_rfl
theorem zero_34 : zeroV Tryz.prog 34 = some (.agg [.str [], .int .i64 0, .int .i64 0, .int .i64 0, .nils 4, .nils 2, .int .i64 0]) := by kernel_rfl
theorem cells_36 : Tryz.prog.cellsOf 36 = 1 := by kernel_rfl
theorem bytes_36 : Tryz.prog.bytesOf 36 = 24 := by kernel_rfl
theorem scal_36 : isScalarT Tryz.prog 36 = true := by kernel_rfl
theorem zero_36 : zeroV Tryz.prog 36 = some (.nils 3) := by kernel_rfl
theorem cells_45 : Tryz.prog.cellsOf 45 = 1 := by kernel_rfl
theorem bytes_45 : Tryz.prog.bytesOf 45 = 24 := by kernel_rfl
theorem scal_45 : isScalarT Tryz.prog 45 = true := by kernel_rfl
theorem zero_45 : zeroV Tryz.prog 45 = some (.nils 2) := by kernel_rfl
theorem cells_47 : Tryz.prog.cellsOf 47 = 1 := by kernel_rfl
theorem bytes_47 : Tryz.prog.bytesOf 47 = 24 := by kernel_rfl
theorem scal_47 : isScalarT Tryz.prog 47 = true := by kernel_rfl
theorem zero_47 : zeroV Tryz.prog 47 = some (.nils 1) := by kernel_rfl
theorem cells_54 : Tryz.prog.cellsOf 54 = 7 := by kernel_rfl
theorem bytes_54 : Tryz.prog.bytesOf 54 = 72 := by kernel_rfl
theorem str_54 : isStruct Tryz.prog 54 = true := by kernel_rfl
theorem ff_54 : fieldsFlat Tryz.prog 54 = true := by kernel_rfl
theorem fld_54_0 : fieldAt Tryz.prog 54 0 = true := by kernel_rfl
theorem sfld_54_0 : scalarField Tryz.prog 54 0 = true := by kernel_rfl
theorem fld_54_1 : fieldAt Tryz.prog 54 1 = true := by kernel_rfl
theorem sfld_54_1 : scalarField Tryz.prog 54 1 = true := by kernel_rfl
theorem fld_54_2 : fieldAt Tryz.prog 54 2 = true := by kernel_rfl
theorem sfld_54_2 : scalarField Tryz.prog 54 2 = true := by kernel_rfl
theorem fld_54_3 : fieldAt Tryz.prog 54 3 = true := by kernel_rfl
theorem sfld_54_3 : scalarField Tryz.prog 54 3 = true := by kernel_rfl
theorem fld_54_4 : fieldAt Tryz.prog 54 4 = true := by kernel_rfl
theorem sfld_54_4 : scalarField Tryz.prog 54 4 = true := by kernel_rfl
theorem fld_54_5 : fieldAt Tryz.prog 54 5 = true := by kernel_rfl
theorem sfld_54_5 : scalarField Tryz.prog 54 5 = true := by kernel_rfl
theorem fld_54_6 : fieldAt Tryz.prog 54 6 = true := by kernel_rfl
theorem sfld_54_6 : scalarField Tryz.prog 54 6 = true := by kernel_rfl
theorem zero_54 : zeroV Tryz.prog 54 = some (.agg [.int .i64 0, .int .i64 0, .int .i64 0, .int .i64 0, .int .i64 0, .nils 2, .bool false]) := by kernel_rfl
theorem cells_64 : Tryz.prog.cellsOf 64 = 3 := by kernel_rfl
theorem bytes_64 : Tryz.prog.bytesOf 64 = 32 := by kernel_rfl
theorem str_64 : isStruct Tryz.prog 64 = true := by kernel_rfl
theorem ff_64 : fieldsFlat Tryz.prog 64 = true := by kernel_rfl
theorem fld_64_0 : fieldAt Tryz.prog 64 0 = true := by kernel_rfl
theorem sfld_64_0 : scalarField Tryz.prog 64 0 = true := by kernel_rfl
theorem fld_64_1 : fieldAt Tryz.prog 64 1 = true := by kernel_rfl
theorem sfld_64_1 : scalarField Tryz.prog 64 1 = true := by kernel_rfl
theorem fld_64_2 : fieldAt Tryz.prog 64 2 = true := by kernel_rfl
theorem sfld_64_2 : scalarField Tryz.prog 64 2 = true := by kernel_rfl
theorem zero_64 : zeroV Tryz.prog 64 = some (.agg [.int .i64 0, .int .i64 0, .str []]) := by kernel_rfl
theorem cells_68 : Tryz.prog.cellsOf 68 = 4 := by kernel_rfl
theorem bytes_68 : Tryz.prog.bytesOf 68 = 40 := by kernel_rfl
theorem str_68 : isStruct Tryz.prog 68 = true := by kernel_rfl
theorem ff_68 : fieldsFlat Tryz.prog 68 = true := by kernel_rfl
theorem fld_68_0 : fieldAt Tryz.prog 68 0 = true := by kernel_rfl
theorem sfld_68_0 : scalarField Tryz.prog 68 0 = true := by kernel_rfl
theorem fld_68_1 : fieldAt Tryz.prog 68 1 = true := by kernel_rfl
theorem sfld_68_1 : scalarField Tryz.prog 68 1 = true := by kernel_rfl
theorem fld_68_2 : fieldAt Tryz.prog 68 2 = true := by kernel_rfl
theorem sfld_68_2 : scalarField Tryz.prog 68 2 = true := by kernel_rfl
theorem fld_68_3 : fieldAt Tryz.prog 68 3 = true := by kernel_rfl
theorem sfld_68_3 : scalarField Tryz.prog 68 3 = true := by kernel_rfl
theorem zero_68 : zeroV Tryz.prog 68 = some (.agg [.int .i64 0, .int .i64 0, .int .i64 0, .str []]) := by kernel_rfl
theorem cells_69 : Tryz.prog.cellsOf 69 = 3 := by kernel_rfl
theorem bytes_69 : Tryz.prog.bytesOf 69 = 32 := by kernel_rfl
theorem str_69 : isStruct Tryz.prog 69 = true := by kernel_rfl
theorem ff_69 : fieldsFlat Tryz.prog 69 = true := by kernel_rfl
theorem fld_69_0 : fieldAt Tryz.prog 69 0 = true := by kernel_rfl
theorem sfld_69_0 : scalarField Tryz.prog 69 0 = true := by kernel_rfl
theorem fld_69_1 : fieldAt Tryz.prog 69 1 = true := by kernel_rfl
theorem sfld_69_1 : scalarField Tryz.prog 69 1 = true := by kernel_rfl
theorem fld_69_2 : fieldAt Tryz.prog 69 2 = true := by kernel_rfl
theorem sfld_69_2 : scalarField Tryz.prog 69 2 = true := by kernel_rfl
theorem zero_69 : zeroV Tryz.prog 69 = some (.agg [.int .i64 0, .int .i64 0, .str []]) := by kernel_rfl
theorem cells_79 : Tryz.prog.cellsOf 79 = 2 := by kernel_rfl
theorem bytes_79 : Tryz.prog.bytesOf 79 = 16 := by kernel_rfl
theorem str_79 : isStruct Tryz.prog 79 = true := by kernel_rfl
theorem ff_79 : fieldsFlat Tryz.prog 79 = true := by kernel_rfl
theorem fld_79_0 : fieldAt Tryz.prog 79 0 = true := by kernel_rfl
theorem sfld_79_0 : scalarField Tryz.prog 79 0 = true := by kernel_rfl
theorem fld_79_1 : fieldAt Tryz.prog 79 1 = true := by kernel_rfl
theorem sfld_79_1 : scalarField Tryz.prog 79 1 = true := by kernel_rfl
theorem zero_79 : zeroV Tryz.prog 79 = some (.agg [.int .i64 0, .int .i64 0]) := by kernel_rfl
theorem cells_86 : Tryz.prog.cellsOf 86 = 1 := by kernel_rfl
theorem bytes_86 : Tryz.prog.bytesOf 86 = 24 := by kernel_rfl
theorem scal_86 : isScalarT Tryz.prog 86 = true := by kernel_rfl
theorem zero_86 : zeroV Tryz.prog 86 = some (.nils 1) := by kernel_rfl
theorem cells_90 : Tryz.prog.cellsOf 90 = 2 := by kernel_rfl
theorem bytes_90 : Tryz.prog.bytesOf 90 = 16 := by kernel_rfl
theorem str_90 : isStruct Tryz.prog 90 = true := by kernel_rfl
theorem ff_90 : fieldsFlat Tryz.prog 90 = true := by kernel_rfl
theorem fld_90_0 : fieldAt Tryz.prog 90 0 = true := by kernel_rfl
theorem sfld_90_0 : scalarField Tryz.prog 90 0 = true := by kernel_rfl
theorem fld_90_1 : fieldAt Tryz.prog 90 1 = true := by kernel_rfl
theorem sfld_90_1 : scalarField Tryz.prog 90 1 = true := by kernel_rfl
theorem zero_90 : zeroV Tryz.prog 90 = some (.agg [.int .i64 0, .int .i64 0]) := by kernel_rfl
theorem cells_99 : Tryz.prog.cellsOf 99 = 4 := by kernel_rfl
theorem bytes_99 : Tryz.prog.bytesOf 99 = 40 := by kernel_rfl
theorem str_99 : isStruct Tryz.prog 99 = true := by kernel_rfl
theorem ff_99 : fieldsFlat Tryz.prog 99 = true := by kernel_rfl
theorem fld_99_0 : fieldAt Tryz.prog 99 0 = true := by kernel_rfl
theorem sfld_99_0 : scalarField Tryz.prog 99 0 = true := by kernel_rfl
theorem fld_99_1 : fieldAt Tryz.prog 99 1 = true := by kernel_rfl
theorem sfld_99_1 : scalarField Tryz.prog 99 1 = true := by kernel_rfl
theorem fld_99_2 : fieldAt Tryz.prog 99 2 = true := by kernel_rfl
theorem sfld_99_2 : scalarField Tryz.prog 99 2 = true := by kernel_rfl
theorem fld_99_3 : fieldAt Tryz.prog 99 3 = true := by kernel_rfl
theorem sfld_99_3 : scalarField Tryz.prog 99 3 = true := by kernel_rfl
theorem zero_99 : zeroV Tryz.prog 99 = some (.agg [.int .i64 0, .int .i64 0, .int .i64 0, .str []]) := by kernel_rfl
theorem cells_103 : Tryz.prog.cellsOf 103 = 2 := by kernel_rfl
theorem bytes_103 : Tryz.prog.bytesOf 103 = 16 := by kernel_rfl
theorem str_103 : isStruct Tryz.prog 103 = true := by kernel_rfl
theorem ff_103 : fieldsFlat Tryz.prog 103 = true := by kernel_rfl
theorem fld_103_0 : fieldAt Tryz.prog 103 0 = true := by kernel_rfl
theorem sfld_103_0 : scalarField Tryz.prog 103 0 = true := by kernel_rfl
theorem fld_103_1 : fieldAt Tryz.prog 103 1 = true := by kernel_rfl
theorem sfld_103_1 : scalarField Tryz.prog 103 1 = true := by kernel_rfl
theorem zero_103 : zeroV Tryz.prog 103 = some (.agg [.int .i64 0, .int .i64 0]) := by kernel_rfl
theorem cells_113 : Tryz.prog.cellsOf 113 = 2 := by kernel_rfl
theorem bytes_113 : Tryz.prog.bytesOf 113 = 16 := by kernel_rfl
theorem str_113 : isStruct Tryz.prog 113 = true := by kernel_rfl
theorem ff_113 : fieldsFlat Tryz.prog 113 = true := by kernel_rfl
theorem fld_113_0 : fieldAt Tryz.prog 113 0 = true := by kernel_rfl
theorem sfld_113_0 : scalarField Tryz.prog 113 0 = true := by kernel_rfl
theorem fld_113_1 : fieldAt Tryz.prog 113 1 = true := by kernel_rfl
theorem sfld_113_1 : scalarField Tryz.prog 113 1 = true := by kernel_rfl
theorem zero_113 : zeroV Tryz.prog 113 = some (.agg [.int .i64 0, .int .i64 0]) := by kernel_rfl
theorem cells_117 : Tryz.prog.cellsOf 117 = 1 := by kernel_rfl
theorem bytes_117 : Tryz.prog.bytesOf 117 = 24 := by kernel_rfl
theorem scal_117 : isScalarT Tryz.prog 117 = true := by kernel_rfl
theorem zero_117 : zeroV Tryz.prog 117 = some (.nils 1) := by kernel_rfl
theorem cells_128 : Tryz.prog.cellsOf 128 = 1 := by kernel_rfl
theorem bytes_128 : Tryz.prog.bytesOf 128 = 24 := by kernel_rfl
theorem scal_128 : isScalarT Tryz.prog 128 = true := by kernel_rfl
theorem zero_128 : zeroV Tryz.prog 128 = some (.nils 1) := by kernel_rfl
theorem cells_153 : Tryz.prog.cellsOf 153 = 1 := by kernel_rfl
theorem bytes_153 : Tryz.prog.bytesOf 153 = 8 := by kernel_rfl
theorem scal_153 : isScalarT Tryz.prog 153 = true := by kernel_rfl
theorem zero_153 : zeroV Tryz.prog 153 = some (.int .u64 0) := by kernel_rfl
theorem cells_165 : Tryz.prog.cellsOf 165 = 2 := by kernel_rfl
theorem bytes_165 : Tryz.prog.bytesOf 165 = 32 := by kernel_rfl
theorem str_165 : isStruct Tryz.prog 165 = true := by kernel_rfl
theorem ff_165 : fieldsFlat Tryz.prog 165 = true := by kernel_rfl
theorem fld_165_0 : fieldAt Tryz.prog 165 0 = true := by kernel_rfl
theorem sfld_165_0 : scalarField Tryz.prog 165 0 = true := by kernel_rfl
theorem fld_165_1 : fieldAt Tryz.prog 165 1 = true := by kernel_rfl
theorem sfld_165_1 : scalarField Tryz.prog 165 1 = true := by kernel_rfl
theorem cells_173 : Tryz.prog.cellsOf 173 = 1 := by kernel_rfl
theorem bytes_173 : Tryz.prog.bytesOf 173 = 8 := by kernel_rfl
theorem scal_173 : isScalarT Tryz.prog 173 = true := by kernel_rfl
theorem zero_173 : zeroV Tryz.prog 173 = some (.int .i64 0) := by kernel_rfl
theorem cells_183 : Tryz.prog.cellsOf 183 = 1 := by kernel_rfl
theorem bytes_183 : Tryz.prog.bytesOf 183 = 8 := by kernel_rfl
theorem scal_183 : isScalarT Tryz.prog 183 = true := by kernel_rfl
theorem zero_183 : zeroV Tryz.prog 183 = some (.int .u64 0) := by kernel_rfl
theorem cells_187 : Tryz.prog.cellsOf 187 = 3 := by kernel_rfl
theorem bytes_187 : Tryz.prog.bytesOf 187 = 48 := by kernel_rfl
theorem str_187 : isStruct Tryz.prog 187 = true := by kernel_rfl
theorem ff_187 : fieldsFlat Tryz.prog 187 = true := by kernel_rfl
theorem fld_187_0 : fieldAt Tryz.prog 187 0 = true := by kernel_rfl
theorem sfld_187_0 : scalarField Tryz.prog 187 0 = true := by kernel_rfl
theorem fld_187_1 : fieldAt Tryz.prog 187 1 = true := by kernel_rfl
theorem sfld_187_1 : scalarField Tryz.prog 187 1 = true := by kernel_rfl
theorem fld_187_2 : fieldAt Tryz.prog 187 2 = true := by kernel_rfl
theorem sfld_187_2 : scalarField Tryz.prog 187 2 = true := by kernel_rfl
theorem cells_189 : Tryz.prog.cellsOf 189 = 1 := by kernel_rfl
theorem bytes_189 : Tryz.prog.bytesOf 189 = 4 := by kernel_rfl
theorem scal_189 : isScalarT Tryz.prog 189 = true := by kernel_rfl
theorem zero_189 : zeroV Tryz.prog 189 = some (.int .u32 0) := by kernel_rfl
theorem cells_202 : Tryz.prog.cellsOf 202 = 2 := by kernel_rfl
theorem bytes_202 : Tryz.prog.bytesOf 202 = 2 := by kernel_rfl
theorem str_202 : isStruct Tryz.prog 202 = true := by kernel_rfl
theorem ff_202 : fieldsFlat Tryz.prog 202 = true := by kernel_rfl
theorem fld_202_0 : fieldAt Tryz.prog 202 0 = true := by kernel_rfl
theorem sfld_202_0 : scalarField Tryz.prog 202 0 = true := by kernel_rfl
theorem fld_202_1 : fieldAt Tryz.prog 202 1 = true := by kernel_rfl
theorem sfld_202_1 : scalarField Tryz.prog 202 1 = true := by kernel_rfl
theorem zero_202 : zeroV Tryz.prog 202 = some (.agg [.int .u8 0, .int .u8 0]) := by kernel_rfl
theorem cells_208 : Tryz.prog.cellsOf 208 = 1 := by kernel_rfl
theorem bytes_208 : Tryz.prog.bytesOf 208 = 16 := by kernel_rfl
theorem str_208 : isStruct Tryz.prog 208 = true := by kernel_rfl
theorem ff_208 : fieldsFlat Tryz.prog 208 = true := by kernel_rfl
theorem fld_208_0 : fieldAt Tryz.prog 208 0 = true := by kernel_rfl
theorem sfld_208_0 : scalarField Tryz.prog 208 0 = true := by kernel_rfl
theorem zero_208 : zeroV Tryz.prog 208 = some (.agg [.str []]) := by kernel_rfl
attribute [go_sem] Tryz.underlying2 Tryz.underlying3 Tryz.underlying4 Tryz.underlying5 Tryz.underlying9 Tryz.underlying21 Tryz.underlying22 Tryz.underlying23 Tryz.underlying25 Tryz.underlying26 Tryz.underlying29 Tryz.underlying31 Tryz.underlying32 Tryz.underlying34 Tryz.underlying36 Tryz.underlying45 Tryz.underlying47 Tryz.underlying54 Tryz.underlying64 Tryz.underlying68 Tryz.underlying69 Tryz.underlying79 Tryz.underlying86 Tryz.underlying90 Tryz.underlying99 Tryz.underlying103 Tryz.underlying113 Tryz.underlying117 Tryz.underlying128 Tryz.underlying153 Tryz.underlying165 Tryz.underlying173 Tryz.underlying183 Tryz.underlying187 Tryz.underlying189 Tryz.underlying202 Tryz.underlying208 cells_2 bytes_2 scal_2 zero_2 cells_3 bytes_3 scal_3 zero_3 cells_4 bytes_4 scal_4 zero_4 cells_5 bytes_5 scal_5 zero_5 cells_9 bytes_9 scal_9 zero_9 cells_21 bytes_21 scal_21 zero_21 cells_22 bytes_22 scal_22 zero_22 cells_23 bytes_23 scal_23 zero_23 cells_25 bytes_25 str_25 ff_25 fld_25_0 fld_25_1 fld_25_2 fld_25_3 fld_25_4 fld_25_5 fld_25_6 sfld_25_0 sfld_25_1 sfld_25_2 sfld_25_3 sfld_25_4 sfld_25_5 sfld_25_6 zero_25 cells_26 bytes_26 scal_26 zero_26 cells_29 bytes_29 scal_29 zero_29 cells_31 bytes_31 scal_31 zero_31 cells_32 bytes_32 scal_32 zero_32 cells_34 bytes_34 str_34 ff_34 fld_34_0 fld_34_1 fld_34_2 fld_34_3 fld_34_4 fld_34_5 fld_34_6 sfld_34_0 sfld_34_1 sfld_34_2 sfld_34_3 sfld_34_4 sfld_34_5 sfld_34_6 zero_34 cells_36 bytes_36 scal_36 zero_36 cells_45 bytes_45 scal_45 zero_45 cells_47 bytes_47 scal_47 zero_47 cells_54 bytes_54 str_54 ff_54 fld_54_0 fld_54_1 fld_54_2 fld_54_3 fld_54_4 fld_54_5 fld_54_6 sfld_54_0 sfld_54_1 sfld_54_2 sfld_54_3 sfld_54_4 sfld_54_5 sfld_54_6 zero_54 cells_64 bytes_64 str_64 ff_64 fld_64_0 fld_64_1 fld_64_2 sfld_64_0 sfld_64_1 sfld_64_2 zero_64 cells_68 bytes_68 str_68 ff_68 fld_68_0 fld_68_1 fld_68_2 fld_68_3 sfld_68_0 sfld_68_1 sfld_68_2 sfld_68_3 zero_68 cells_69 bytes_69 str_69 ff_69 fld_69_0 fld_69_1 fld_69_2 sfld_69_0 sfld_69_1 sfld_69_2 zero_69 cells_79 bytes_79 str_79 ff_79 fld_79_0 fld_79_1 sfld_79_0 sfld_79_1 zero_79 cells_86 bytes_86 scal_86 zero_86 cells_90 bytes_90 str_90 ff_90 fld_90_0 fld_90_1 sfld_90_0 sfld_90_1 zero_90 cells_99 bytes_99 str_99 ff_99 fld_99_0 fld_99_1 fld_99_2 fld_99_3 sfld_99_0 sfld_99_1 sfld_99_2 sfld_99_3 zero_99 cells_103 bytes_103 str_103 ff_103 fld_103_0 fld_103_1 sfld_103_0 sfld_103_1 zero_103 cells_113 bytes_113 str_113 ff_113 fld_113_0 fld_113_1 sfld_113_0 sfld_113_1 zero_113 cells_117 bytes_117 scal_117 zero_117 cells_128 bytes_128 scal_128 zero_128 cells_153 bytes_153 scal_153 zero_153 cells_165 bytes_165 str_165 ff_165 fld_165_0 fld_165_1 sfld_165_0 sfld_165_1 cells_173 bytes_173 scal_173 zero_173 cells_183 bytes_183 scal_183 zero_183 cells_187 bytes_187 str_187 ff_187 fld_187_0 fld_187_1 fld_187_2 sfld_187_0 sfld_187_1 sfld_187_2 cells_189 bytes_189 scal_189 zero_189 cells_202 bytes_202 str_202 ff_202 fld_202_0 fld_202_1 sfld_202_0 sfld_202_1 zero_202 cells_208 bytes_208 str_208 ff_208 fld_208_0 sfld_208_0 zero_208
end Go.Proofs.YtglldabpgobimaaGreatDoor.Ty
