/- Facts on the types of the program, each looked up in it. -/
import Derived.Test.YthokmmknbbghbaaDoorVmSet
import Derived.Test.YthokmmknbbghbaaDoorProg
import Derived.KernelRfl
namespace Go.Proofs.YthokmmknbbghbaaDoor.Ty
open Go Go.VM
set_option maxRecDepth 100000
theorem cells_2 : Tryd.prog.cellsOf 2 = 1 := by kernel_rfl
theorem bytes_2 : Tryd.prog.bytesOf 2 = 8 := by kernel_rfl
theorem scal_2 : isScalarT Tryd.prog 2 = true := by kernel_rfl
theorem zero_2 : zeroV Tryd.prog 2 = some (.int .i64 0) := by kernel_rfl
theorem cells_3 : Tryd.prog.cellsOf 3 = 1 := by kernel_rfl
theorem bytes_3 : Tryd.prog.bytesOf 3 = 8 := by kernel_rfl
theorem scal_3 : isScalarT Tryd.prog 3 = true := by kernel_rfl
theorem zero_3 : zeroV Tryd.prog 3 = some (.int .i64 0) := by kernel_rfl
theorem cells_4 : Tryd.prog.cellsOf 4 = 1 := by kernel_rfl
theorem bytes_4 : Tryd.prog.bytesOf 4 = 1 := by kernel_rfl
theorem scal_4 : isScalarT Tryd.prog 4 = true := by kernel_rfl
theorem zero_4 : zeroV Tryd.prog 4 = some (.bool false) := by kernel_rfl
theorem cells_5 : Tryd.prog.cellsOf 5 = 1 := by kernel_rfl
theorem bytes_5 : Tryd.prog.bytesOf 5 = 1 := by kernel_rfl
theorem scal_5 : isScalarT Tryd.prog 5 = true := by kernel_rfl
theorem zero_5 : zeroV Tryd.prog 5 = some (.int .u8 0) := by kernel_rfl
theorem cells_6 : Tryd.prog.cellsOf 6 = 1 := by kernel_rfl
theorem bytes_6 : Tryd.prog.bytesOf 6 = 1 := by kernel_rfl
theorem scal_6 : isScalarT Tryd.prog 6 = true := by kernel_rfl
theorem zero_6 : zeroV Tryd.prog 6 = some (.int .u8 0) := by kernel_rfl
theorem cells_8 : Tryd.prog.cellsOf 8 = 4 := by kernel_rfl
theorem bytes_8 : Tryd.prog.bytesOf 8 = 24 := by kernel_rfl
theorem str_8 : isStruct Tryd.prog 8 = true := by kernel_rfl
theorem ff_8 : fieldsFlat Tryd.prog 8 = true := by kernel_rfl
theorem fld_8_0 : fieldAt Tryd.prog 8 0 = true := by kernel_rfl
theorem sfld_8_0 : scalarField Tryd.prog 8 0 = true := by kernel_rfl
theorem fld_8_1 : fieldAt Tryd.prog 8 1 = true := by kernel_rfl
theorem sfld_8_1 : scalarField Tryd.prog 8 1 = true := by kernel_rfl
theorem fld_8_2 : fieldAt Tryd.prog 8 2 = true := by kernel_rfl
theorem sfld_8_2 : scalarField Tryd.prog 8 2 = true := by kernel_rfl
theorem fld_8_3 : fieldAt Tryd.prog 8 3 = true := by kernel_rfl
theorem sfld_8_3 : scalarField Tryd.prog 8 3 = true := by kernel_rfl
theorem zero_8 : zeroV Tryd.prog 8 = some (.agg [.int .i64 0, .int .i64 0, .bool false, .int .u8 0]) := by kernel_rfl
theorem cells_9 : Tryd.prog.cellsOf 9 = 1 := by kernel_rfl
theorem bytes_9 : Tryd.prog.bytesOf 9 = 16 := by kernel_rfl
theorem scal_9 : isScalarT Tryd.prog 9 = true := by kernel_rfl
theorem zero_9 : zeroV Tryd.prog 9 = some (.str []) := by kernel_rfl
theorem cells_10 : Tryd.prog.cellsOf 10 = 1 := by kernel_rfl
theorem bytes_10 : Tryd.prog.bytesOf 10 = 16 := by kernel_rfl
theorem scal_10 : isScalarT Tryd.prog 10 = true := by kernel_rfl
theorem zero_10 : zeroV Tryd.prog 10 = some (.str []) := by kernel_rfl
theorem cells_11 : Tryd.prog.cellsOf 11 = 1 := by kernel_rfl
theorem bytes_11 : Tryd.prog.bytesOf 11 = 16 := by kernel_rfl
theorem scal_11 : isScalarT Tryd.prog 11 = true := by kernel_rfl
theorem zero_11 : zeroV Tryd.prog 11 = some (.str []) := by kernel_rfl
theorem cells_12 : Tryd.prog.cellsOf 12 = 1 := by kernel_rfl
theorem bytes_12 : Tryd.prog.bytesOf 12 = 8 := by kernel_rfl
theorem scal_12 : isScalarT Tryd.prog 12 = true := by kernel_rfl
theorem zero_12 : zeroV Tryd.prog 12 = some (.int .u64 0) := by kernel_rfl
theorem cells_14 : Tryd.prog.cellsOf 14 = 2 := by kernel_rfl
theorem bytes_14 : Tryd.prog.bytesOf 14 = 24 := by kernel_rfl
theorem str_14 : isStruct Tryd.prog 14 = true := by kernel_rfl
theorem ff_14 : fieldsFlat Tryd.prog 14 = true := by kernel_rfl
theorem fld_14_0 : fieldAt Tryd.prog 14 0 = true := by kernel_rfl
theorem sfld_14_0 : scalarField Tryd.prog 14 0 = true := by kernel_rfl
theorem fld_14_1 : fieldAt Tryd.prog 14 1 = true := by kernel_rfl
theorem sfld_14_1 : scalarField Tryd.prog 14 1 = true := by kernel_rfl
theorem zero_14 : zeroV Tryd.prog 14 = some (.agg [.str [], .int .u64 0]) := by kernel_rfl
theorem cells_19 : Tryd.prog.cellsOf 19 = 1 := by kernel_rfl
theorem bytes_19 : Tryd.prog.bytesOf 19 = 8 := by kernel_rfl
theorem str_19 : isStruct Tryd.prog 19 = true := by kernel_rfl
theorem ff_19 : fieldsFlat Tryd.prog 19 = true := by kernel_rfl
theorem fld_19_0 : fieldAt Tryd.prog 19 0 = true := by kernel_rfl
theorem sfld_19_0 : scalarField Tryd.prog 19 0 = true := by kernel_rfl
theorem cells_21 : Tryd.prog.cellsOf 21 = 1 := by kernel_rfl
theorem bytes_21 : Tryd.prog.bytesOf 21 = 4 := by kernel_rfl
theorem scal_21 : isScalarT Tryd.prog 21 = true := by kernel_rfl
theorem zero_21 : zeroV Tryd.prog 21 = some (.int .i32 0) := by kernel_rfl
theorem cells_24 : Tryd.prog.cellsOf 24 = 1 := by kernel_rfl
theorem bytes_24 : Tryd.prog.bytesOf 24 = 24 := by kernel_rfl
theorem scal_24 : isScalarT Tryd.prog 24 = true := by kernel_rfl
theorem zero_24 : zeroV Tryd.prog 24 = some (.nils 1) := by kernel_rfl
theorem cells_26 : Tryd.prog.cellsOf 26 = 1 := by kernel_rfl
theorem bytes_26 : Tryd.prog.bytesOf 26 = 24 := by kernel_rfl
theorem scal_26 : isScalarT Tryd.prog 26 = true := by kernel_rfl
theorem zero_26 : zeroV Tryd.prog 26 = some (.nils 1) := by kernel_rfl
theorem cells_28 : Tryd.prog.cellsOf 28 = 1 := by kernel_rfl
theorem bytes_28 : Tryd.prog.bytesOf 28 = 24 := by kernel_rfl
theorem scal_28 : isScalarT Tryd.prog 28 = true := by kernel_rfl
theorem zero_28 : zeroV Tryd.prog 28 = some (.nils 1) := by kernel_rfl
theorem cells_38 : Tryd.prog.cellsOf 38 = 1 := by kernel_rfl
theorem bytes_38 : Tryd.prog.bytesOf 38 = 24 := by kernel_rfl
theorem scal_38 : isScalarT Tryd.prog 38 = true := by kernel_rfl
theorem zero_38 : zeroV Tryd.prog 38 = some (.nils 2) := by kernel_rfl
theorem cells_40 : Tryd.prog.cellsOf 40 = 8 := by kernel_rfl
theorem bytes_40 : Tryd.prog.bytesOf 40 = 104 := by kernel_rfl
theorem str_40 : isStruct Tryd.prog 40 = true := by kernel_rfl
theorem ff_40 : fieldsFlat Tryd.prog 40 = true := by kernel_rfl
theorem fld_40_0 : fieldAt Tryd.prog 40 0 = true := by kernel_rfl
theorem sfld_40_0 : scalarField Tryd.prog 40 0 = true := by kernel_rfl
theorem fld_40_1 : fieldAt Tryd.prog 40 1 = true := by kernel_rfl
theorem sfld_40_1 : scalarField Tryd.prog 40 1 = true := by kernel_rfl
theorem fld_40_2 : fieldAt Tryd.prog 40 2 = true := by kernel_rfl
theorem sfld_40_2 : scalarField Tryd.prog 40 2 = true := by kernel_rfl
theorem fld_40_3 : fieldAt Tryd.prog 40 3 = true := by kernel_rfl
theorem sfld_40_3 : scalarField Tryd.prog 40 3 = true := by kernel_rfl
theorem fld_40_4 : fieldAt Tryd.prog 40 4 = true := by kernel_rfl
theorem sfld_40_4 : scalarField Tryd.prog 40 4 = true := by kernel_rfl
theorem fld_40_5 : fieldAt Tryd.prog 40 5 = true := by kernel_rfl
theorem sfld_40_5 : scalarField Tryd.prog 40 5 = true := by kernel_rfl
theorem fld_40_6 : fieldAt Tryd.prog 40 6 = true := by kernel_rfl
theorem sfld_40_6 : scalarField Tryd.prog 40 6 = true := by kernel_rfl
theorem fld_40_7 : fieldAt Tryd.prog 40 7 = true := by kernel_rfl
theorem sfld_40_7 : scalarField Tryd.prog 40 7 = true := by kernel_rfl
theorem zero_40 : zeroV Tryd.prog 40 = some (.agg [.int .i64 0, .str [], .str [], .nils 2, .int .i64 0, .int .i64 0, .int .i64 0, .str []]) := by kernel_rfl
theorem cells_43 : Tryd.prog.cellsOf 43 = 1 := by kernel_rfl
theorem bytes_43 : Tryd.prog.bytesOf 43 = 24 := by kernel_rfl
theorem scal_43 : isScalarT Tryd.prog 43 = true := by kernel_rfl
theorem zero_43 : zeroV Tryd.prog 43 = some (.nils 2) := by kernel_rfl
theorem cells_45 : Tryd.prog.cellsOf 45 = 8 := by kernel_rfl
theorem bytes_45 : Tryd.prog.bytesOf 45 = 104 := by kernel_rfl
theorem str_45 : isStruct Tryd.prog 45 = true := by kernel_rfl
theorem ff_45 : fieldsFlat Tryd.prog 45 = true := by kernel_rfl
theorem fld_45_0 : fieldAt Tryd.prog 45 0 = true := by kernel_rfl
theorem sfld_45_0 : scalarField Tryd.prog 45 0 = true := by kernel_rfl
theorem fld_45_1 : fieldAt Tryd.prog 45 1 = true := by kernel_rfl
theorem sfld_45_1 : scalarField Tryd.prog 45 1 = true := by kernel_rfl
theorem fld_45_2 : fieldAt Tryd.prog 45 2 = true := by kernel_rfl
theorem sfld_45_2 : scalarField Tryd.prog 45 2 = true := by kernel_rfl
theorem fld_45_3 : fieldAt Tryd.prog 45 3 = true := by kernel_rfl
theorem sfld_45_3 : scalarField Tryd.prog 45 3 = true := by kernel_rfl
theorem fld_45_4 : fieldAt Tryd.prog 45 4 = true := by kernel_rfl
theorem sfld_45_4 : scalarField Tryd.prog 45 4 = true := by kernel_rfl
theorem fld_45_5 : fieldAt Tryd.prog 45 5 = true := by kernel_rfl
theorem sfld_45_5 : scalarField Tryd.prog 45 5 = true := by kernel_rfl
theorem fld_45_6 : fieldAt Tryd.prog 45 6 = true := by kernel_rfl
theorem sfld_45_6 : scalarField Tryd.prog 45 6 = true := by kernel_rfl
theorem fld_45_7 : fieldAt Tryd.prog 45 7 = true := by kernel_rfl
theorem sfld_45_7 : scalarField Tryd.prog 45 7 = true := by kernel_rfl
theorem zero_45 : zeroV Tryd.prog 45 = some (.agg [.int .i64 0, .str [], .str [], .nils 2, .int .i64 0, .int .i64 0, .int .i64 0, .str []]) := by kernel_rfl
theorem cells_50 : Tryd.prog.cellsOf 50 = 7 := by kernel_rfl
theorem bytes_50 : Tryd.prog.bytesOf 50 = 72 := by kernel_rfl
theorem str_50 : isStruct Tryd.prog 50 = true := by kernel_rfl
theorem ff_50 : fieldsFlat Tryd.prog 50 = true := by kernel_rfl
theorem fld_50_0 : fieldAt Tryd.prog 50 0 = true := by kernel_rfl
theorem sfld_50_0 : scalarField Tryd.prog 50 0 = true := by kernel_rfl
theorem fld_50_1 : fieldAt Tryd.prog 50 1 = true := by kernel_rfl
theorem sfld_50_1 : scalarField Tryd.prog 50 1 = true := by kernel_rfl
theorem fld_50_2 : fieldAt Tryd.prog 50 2 = true := by kernel_rfl
theorem sfld_50_2 : scalarField Tryd.prog 50 2 = true := by kernel_rfl
theorem fld_50_3 : fieldAt Tryd.prog 50 3 = true := by kernel_rfl
theorem sfld_50_3 : scalarField Tryd.prog 50 3 = true := by kernel_rfl
theorem fld_50_4 : fieldAt Tryd.prog 50 4 = true := by kernel_rfl
theorem sfld_50_4 : scalarField Tryd.prog 50 4 = true := by kernel_rfl
theorem fld_50_5 : fieldAt Tryd.prog 50 5 = true := by kernel_rfl
theorem sfld_50_5 : scalarField Tryd.prog 50 5 = true := by kernel_rfl
theorem fld_50_6 : fieldAt Tryd.prog 50 6 = true := by kernel_rfl
theorem sfld_50_6 : scalarField Tryd.prog 50 6 = true := by kernel_rfl
theorem zero_50 : zeroV Tryd.prog 50 = some (.agg [.int .i64 0, .int .i64 0, .int .i64 0, .int .i64 0, .int .i64 0, .nils 2, .bool false]) := by kernel_rfl
theorem cells_54 : Tryd.prog.cellsOf 54 = 7 := by kernel_rfl
theorem bytes_54 : Tryd.prog.bytesOf 54 = 72 := by kernel_rfl
theorem str_54 : isStruct Tryd.prog 54 = true := by kernel_rfl
theorem ff_54 : fieldsFlat Tryd.prog 54 = true := by kernel_rfl
theorem fld_54_0 : fieldAt Tryd.prog 54 0 = true := by kernel_rfl
theorem sfld_54_0 : scalarField Tryd.prog 54 0 = true := by kernel_rfl
theorem fld_54_1 : fieldAt Tryd.prog 54 1 = true := by kernel_rfl
theorem sfld_54_1 : scalarField Tryd.prog 54 1 = true := by kernel_rfl
theorem fld_54_2 : fieldAt Tryd.prog 54 2 = true := by kernel_rfl
theorem sfld_54_2 : scalarField Tryd.prog 54 2 = true := by kernel_rfl
theorem fld_54_3 : fieldAt Tryd.prog 54 3 = true := by kernel_rfl
theorem sfld_54_3 : scalarField Tryd.prog 54 3 = true := by kernel_rfl
theorem fld_54_4 : fieldAt Tryd.prog 54 4 = true := by kernel_rfl
theorem sfld_54_4 : scalarField Tryd.prog 54 4 = true := by kernel_rfl
theorem fld_54_5 : fieldAt Tryd.prog 54 5 = true := by kernel_rfl
theorem sfld_54_5 : scalarField Tryd.prog 54 5 = true := by kernel_rfl
theorem fld_54_6 : fieldAt Tryd.prog 54 6 = true := by kernel_rfl
theorem sfld_54_6 : scalarField Tryd.prog 54 6 = true := by kernel_rfl
theorem zero_54 : zeroV Tryd.prog 54 = some (.agg [.int .i64 0, .int .i64 0, .int .i64 0, .int .i64 0, .int .i64 0, .nils 2, .bool false]) := by kernel_rfl
theorem cells_58 : Tryd.prog.cellsOf 58 = 1 := by kernel_rfl
theorem bytes_58 : Tryd.prog.bytesOf 58 = 24 := by kernel_rfl
theorem scal_58 : isScalarT Tryd.prog 58 = true := by kernel_rfl
theorem zero_58 : zeroV Tryd.prog 58 = some (.nils 4) := by kernel_rfl
theorem cells_65 : Tryd.prog.cellsOf 65 = 4 := by kernel_rfl
theorem bytes_65 : Tryd.prog.bytesOf 65 = 40 := by kernel_rfl
theorem str_65 : isStruct Tryd.prog 65 = true := by kernel_rfl
theorem ff_65 : fieldsFlat Tryd.prog 65 = true := by kernel_rfl
theorem fld_65_0 : fieldAt Tryd.prog 65 0 = true := by kernel_rfl
theorem sfld_65_0 : scalarField Tryd.prog 65 0 = true := by kernel_rfl
theorem fld_65_1 : fieldAt Tryd.prog 65 1 = true := by kernel_rfl
theorem sfld_65_1 : scalarField Tryd.prog 65 1 = true := by kernel_rfl
theorem fld_65_2 : fieldAt Tryd.prog 65 2 = true := by kernel_rfl
theorem sfld_65_2 : scalarField Tryd.prog 65 2 = true := by kernel_rfl
theorem fld_65_3 : fieldAt Tryd.prog 65 3 = true := by kernel_rfl
theorem sfld_65_3 : scalarField Tryd.prog 65 3 = true := by kernel_rfl
theorem zero_65 : zeroV Tryd.prog 65 = some (.agg [.int .i64 0, .int .i64 0, .int .i64 0, .str []]) := by kernel_rfl
theorem cells_67 : Tryd.prog.cellsOf 67 = 3 := by kernel_rfl
theorem bytes_67 : Tryd.prog.bytesOf 67 = 32 := by kernel_rfl
theorem str_67 : isStruct Tryd.prog 67 = true := by kernel_rfl
theorem ff_67 : fieldsFlat Tryd.prog 67 = true := by kernel_rfl
theorem fld_67_0 : fieldAt Tryd.prog 67 0 = true := by kernel_rfl
theorem sfld_67_0 : scalarField Tryd.prog 67 0 = true := by kernel_rfl
theorem fld_67_1 : fieldAt Tryd.prog 67 1 = true := by kernel_rfl
theorem sfld_67_1 : scalarField Tryd.prog 67 1 = true := by kernel_rfl
theorem fld_67_2 : fieldAt Tryd.prog 67 2 = true := by kernel_rfl
theorem sfld_67_2 : scalarField Tryd.prog 67 2 = true := by kernel_rfl
theorem zero_67 : zeroV Tryd.prog 67 = some (.agg [.int .i64 0, .int .i64 0, .str []]) := by kernel_rfl
theorem cells_71 : Tryd.prog.cellsOf 71 = 4 := by kernel_rfl
theorem bytes_71 : Tryd.prog.bytesOf 71 = 40 := by kernel_rfl
theorem str_71 : isStruct Tryd.prog 71 = true := by kernel_rfl
theorem ff_71 : fieldsFlat Tryd.prog 71 = true := by kernel_rfl
theorem fld_71_0 : fieldAt Tryd.prog 71 0 = true := by kernel_rfl
theorem sfld_71_0 : scalarField Tryd.prog 71 0 = true := by kernel_rfl
theorem fld_71_1 : fieldAt Tryd.prog 71 1 = true := by kernel_rfl
theorem sfld_71_1 : scalarField Tryd.prog 71 1 = true := by kernel_rfl
theorem fld_71_2 : fieldAt Tryd.prog 71 2 = true := by kernel_rfl
theorem sfld_71_2 : scalarField Tryd.prog 71 2 = true := by kernel_rfl
theorem fld_71_3 : fieldAt Tryd.prog 71 3 = true := by kernel_rfl
theorem sfld_71_3 : scalarField Tryd.prog 71 3 = true := by kernel_rfl
theorem zero_71 : zeroV Tryd.prog 71 = some (.agg [.int .i64 0, .int .i64 0, .int .i64 0, .str []]) := by kernel_rfl
theorem cells_73 : Tryd.prog.cellsOf 73 = 3 := by kernel_rfl
theorem bytes_73 : Tryd.prog.bytesOf 73 = 32 := by kernel_rfl
theorem str_73 : isStruct Tryd.prog 73 = true := by kernel_rfl
theorem ff_73 : fieldsFlat Tryd.prog 73 = true := by kernel_rfl
theorem fld_73_0 : fieldAt Tryd.prog 73 0 = true := by kernel_rfl
theorem sfld_73_0 : scalarField Tryd.prog 73 0 = true := by kernel_rfl
theorem fld_73_1 : fieldAt Tryd.prog 73 1 = true := by kernel_rfl
theorem sfld_73_1 : scalarField Tryd.prog 73 1 = true := by kernel_rfl
theorem fld_73_2 : fieldAt Tryd.prog 73 2 = true := by kernel_rfl
theorem sfld_73_2 : scalarField Tryd.prog 73 2 = true := by kernel_rfl
theorem zero_73 : zeroV Tryd.prog 73 = some (.agg [.int .i64 0, .int .i64 0, .str []]) := by kernel_rfl
theorem cells_77 : Tryd.prog.cellsOf 77 = 1 := by kernel_rfl
theorem bytes_77 : Tryd.prog.bytesOf 77 = 24 := by kernel_rfl
theorem scal_77 : isScalarT Tryd.prog 77 = true := by kernel_rfl
theorem zero_77 : zeroV Tryd.prog 77 = some (.nils 3) := by kernel_rfl
theorem cells_110 : Tryd.prog.cellsOf 110 = 4 := by kernel_rfl
theorem bytes_110 : Tryd.prog.bytesOf 110 = 56 := by kernel_rfl
theorem str_110 : isStruct Tryd.prog 110 = true := by kernel_rfl
theorem ff_110 : fieldsFlat Tryd.prog 110 = true := by kernel_rfl
theorem fld_110_0 : fieldAt Tryd.prog 110 0 = true := by kernel_rfl
theorem sfld_110_0 : scalarField Tryd.prog 110 0 = true := by kernel_rfl
theorem fld_110_1 : fieldAt Tryd.prog 110 1 = true := by kernel_rfl
theorem sfld_110_1 : scalarField Tryd.prog 110 1 = true := by kernel_rfl
theorem fld_110_2 : fieldAt Tryd.prog 110 2 = true := by kernel_rfl
theorem sfld_110_2 : scalarField Tryd.prog 110 2 = true := by kernel_rfl
theorem fld_110_3 : fieldAt Tryd.prog 110 3 = true := by kernel_rfl
theorem sfld_110_3 : scalarField Tryd.prog 110 3 = true := by kernel_rfl
theorem zero_110 : zeroV Tryd.prog 110 = some (.agg [.int .i64 0, .str [], .str [], .str []]) := by kernel_rfl
theorem cells_134 : Tryd.prog.cellsOf 134 = 3 := by kernel_rfl
theorem bytes_134 : Tryd.prog.bytesOf 134 = 40 := by kernel_rfl
theorem str_134 : isStruct Tryd.prog 134 = true := by kernel_rfl
theorem ff_134 : fieldsFlat Tryd.prog 134 = true := by kernel_rfl
theorem fld_134_0 : fieldAt Tryd.prog 134 0 = true := by kernel_rfl
theorem sfld_134_0 : scalarField Tryd.prog 134 0 = true := by kernel_rfl
theorem fld_134_1 : fieldAt Tryd.prog 134 1 = true := by kernel_rfl
theorem sfld_134_1 : scalarField Tryd.prog 134 1 = true := by kernel_rfl
theorem fld_134_2 : fieldAt Tryd.prog 134 2 = true := by kernel_rfl
theorem sfld_134_2 : scalarField Tryd.prog 134 2 = true := by kernel_rfl
theorem zero_134 : zeroV Tryd.prog 134 = some (.agg [.nils 1, .int .i64 0, .int .i64 0]) := by kernel_rfl
theorem cells_135 : Tryd.prog.cellsOf 135 = 1 := by kernel_rfl
theorem bytes_135 : Tryd.prog.bytesOf 135 = 8 := by kernel_rfl
theorem scal_135 : isScalarT Tryd.prog 135 = true := by kernel_rfl
theorem zero_135 : zeroV Tryd.prog 135 = some (.int .u64 0) := by kernel_rfl
theorem cells_141 : Tryd.prog.cellsOf 141 = 2 := by kernel_rfl
theorem bytes_141 : Tryd.prog.bytesOf 141 = 16 := by kernel_rfl
theorem str_141 : isStruct Tryd.prog 141 = true := by kernel_rfl
theorem ff_141 : fieldsFlat Tryd.prog 141 = true := by kernel_rfl
theorem fld_141_0 : fieldAt Tryd.prog 141 0 = true := by kernel_rfl
theorem sfld_141_0 : scalarField Tryd.prog 141 0 = true := by kernel_rfl
theorem fld_141_1 : fieldAt Tryd.prog 141 1 = true := by kernel_rfl
theorem sfld_141_1 : scalarField Tryd.prog 141 1 = true := by kernel_rfl
theorem zero_141 : zeroV Tryd.prog 141 = some (.agg [.int .i64 0, .int .i64 0]) := by kernel_rfl
theorem cells_143 : Tryd.prog.cellsOf 143 = 2 := by kernel_rfl
theorem bytes_143 : Tryd.prog.bytesOf 143 = 16 := by kernel_rfl
theorem str_143 : isStruct Tryd.prog 143 = true := by kernel_rfl
theorem ff_143 : fieldsFlat Tryd.prog 143 = true := by kernel_rfl
theorem fld_143_0 : fieldAt Tryd.prog 143 0 = true := by kernel_rfl
theorem sfld_143_0 : scalarField Tryd.prog 143 0 = true := by kernel_rfl
theorem fld_143_1 : fieldAt Tryd.prog 143 1 = true := by kernel_rfl
theorem sfld_143_1 : scalarField Tryd.prog 143 1 = true := by kernel_rfl
theorem zero_143 : zeroV Tryd.prog 143 = some (.agg [.int .i64 0, .int .i64 0]) := by kernel_rfl
theorem cells_149 : Tryd.prog.cellsOf 149 = 1 := by kernel_rfl
theorem bytes_149 : Tryd.prog.bytesOf 149 = 4 := by kernel_rfl
theorem scal_149 : isScalarT Tryd.prog 149 = true := by kernel_rfl
theorem zero_149 : zeroV Tryd.prog 149 = some (.int .u32 0) := by kernel_rfl
theorem cells_151 : Tryd.prog.cellsOf 151 = 1 := by kernel_rfl
theorem bytes_151 : Tryd.prog.bytesOf 151 = 24 := by kernel_rfl
theorem scal_151 : isScalarT Tryd.prog 151 = true := by kernel_rfl
theorem zero_151 : zeroV Tryd.prog 151 = some (.nils 1) := by kernel_rfl
theorem cells_165 : Tryd.prog.cellsOf 165 = 2 := by kernel_rfl
theorem bytes_165 : Tryd.prog.bytesOf 165 = 32 := by kernel_rfl
theorem str_165 : isStruct Tryd.prog 165 = true := by kernel_rfl
theorem ff_165 : fieldsFlat Tryd.prog 165 = true := by kernel_rfl
theorem fld_165_0 : fieldAt Tryd.prog 165 0 = true := by kernel_rfl
theorem sfld_165_0 : scalarField Tryd.prog 165 0 = true := by kernel_rfl
theorem fld_165_1 : fieldAt Tryd.prog 165 1 = true := by kernel_rfl
theorem sfld_165_1 : scalarField Tryd.prog 165 1 = true := by kernel_rfl
theorem cells_180 : Tryd.prog.cellsOf 180 = 2 := by kernel_rfl
theorem bytes_180 : Tryd.prog.bytesOf 180 = 2 := by kernel_rfl
theorem str_180 : isStruct Tryd.prog 180 = true := by kernel_rfl
theorem ff_180 : fieldsFlat Tryd.prog 180 = true := by kernel_rfl
theorem fld_180_0 : fieldAt Tryd.prog 180 0 = true := by kernel_rfl
theorem sfld_180_0 : scalarField Tryd.prog 180 0 = true := by kernel_rfl
theorem fld_180_1 : fieldAt Tryd.prog 180 1 = true := by kernel_rfl
theorem sfld_180_1 : scalarField Tryd.prog 180 1 = true := by kernel_rfl
theorem zero_180 : zeroV Tryd.prog 180 = some (.agg [.int .u8 0, .int .u8 0]) := by kernel_rfl
theorem cells_189 : Tryd.prog.cellsOf 189 = 1 := by kernel_rfl
theorem bytes_189 : Tryd.prog.bytesOf 189 = 8 := by kernel_rfl
theorem scal_189 : isScalarT Tryd.prog 189 = true := by kernel_rfl
theorem zero_189 : zeroV Tryd.prog 189 = some (.int .u64 0) := by kernel_rfl
theorem cells_194 : Tryd.prog.cellsOf 194 = 1 := by kernel_rfl
theorem bytes_194 : Tryd.prog.bytesOf 194 = 8 := by kernel_rfl
theorem scal_194 : isScalarT Tryd.prog 194 = true := by kernel_rfl
theorem zero_194 : zeroV Tryd.prog 194 = some (.int .i64 0) := by kernel_rfl
theorem cells_207 : Tryd.prog.cellsOf 207 = 3 := by kernel_rfl
theorem bytes_207 : Tryd.prog.bytesOf 207 = 48 := by kernel_rfl
theorem str_207 : isStruct Tryd.prog 207 = true := by kernel_rfl
theorem ff_207 : fieldsFlat Tryd.prog 207 = true := by kernel_rfl
theorem fld_207_0 : fieldAt Tryd.prog 207 0 = true := by kernel_rfl
theorem sfld_207_0 : scalarField Tryd.prog 207 0 = true := by kernel_rfl
theorem fld_207_1 : fieldAt Tryd.prog 207 1 = true := by kernel_rfl
theorem sfld_207_1 : scalarField Tryd.prog 207 1 = true := by kernel_rfl
theorem fld_207_2 : fieldAt Tryd.prog 207 2 = true := by kernel_rfl
theorem sfld_207_2 : scalarField Tryd.prog 207 2 = true := by kernel_rfl
theorem cells_213 : Tryd.prog.cellsOf 213 = 1 := by kernel_rfl
theorem bytes_213 : Tryd.prog.bytesOf 213 = 16 := by kernel_rfl
theorem str_213 : isStruct Tryd.prog 213 = true := by kernel_rfl
theorem ff_213 : fieldsFlat Tryd.prog 213 = true := by kernel_rfl
theorem fld_213_0 : fieldAt Tryd.prog 213 0 = true := by kernel_rfl
theorem sfld_213_0 : scalarField Tryd.prog 213 0 = true := by kernel_rfl
theorem zero_213 : zeroV Tryd.prog 213 = some (.agg [.str []]) := by kernel_rfl
theorem cells_223 : Tryd.prog.cellsOf 223 = 1 := by kernel_rfl
theorem bytes_223 : Tryd.prog.bytesOf 223 = 1 := by kernel_rfl
theorem scal_223 : isScalarT Tryd.prog 223 = true := by kernel_rfl
theorem zero_223 : zeroV Tryd.prog 223 = some (.int .u8 0) := by kernel_rfl
attribute [go_sem] Tryd.underlying2 Tryd.underlying3 Tryd.underlying4 Tryd.underlying5 Tryd.underlying6 Tryd.underlying8 Tryd.underlying9 Tryd.underlying10 Tryd.underlying11 Tryd.underlying12 Tryd.underlying14 Tryd.underlying19 Tryd.underlying21 Tryd.underlying24 Tryd.underlying26 Tryd.underlying28 Tryd.underlying38 Tryd.underlying40 Tryd.underlying43 Tryd.underlying45 Tryd.underlying50 Tryd.underlying54 Tryd.underlying58 Tryd.underlying65 Tryd.underlying67 Tryd.underlying71 Tryd.underlying73 Tryd.underlying77 Tryd.underlying110 Tryd.underlying134 Tryd.underlying135 Tryd.underlying141 Tryd.underlying143 Tryd.underlying149 Tryd.underlying151 Tryd.underlying165 Tryd.underlying180 Tryd.underlying189 Tryd.underlying194 Tryd.underlying207 Tryd.underlying213 Tryd.underlying223 cells_2 bytes_2 scal_2 zero_2 cells_3 bytes_3 scal_3 zero_3 cells_4 bytes_4 scal_4 zero_4 cells_5 bytes_5 scal_5 zero_5 cells_6 bytes_6 scal_6 zero_6 cells_8 bytes_8 str_8 ff_8 fld_8_0 fld_8_1 fld_8_2 fld_8_3 sfld_8_0 sfld_8_1 sfld_8_2 sfld_8_3 zero_8 cells_9 bytes_9 scal_9 zero_9 cells_10 bytes_10 scal_10 zero_10 cells_11 bytes_11 scal_11 zero_11 cells_12 bytes_12 scal_12 zero_12 cells_14 bytes_14 str_14 ff_14 fld_14_0 fld_14_1 sfld_14_0 sfld_14_1 zero_14 cells_19 bytes_19 str_19 ff_19 fld_19_0 sfld_19_0 cells_21 bytes_21 scal_21 zero_21 cells_24 bytes_24 scal_24 zero_24 cells_26 bytes_26 scal_26 zero_26 cells_28 bytes_28 scal_28 zero_28 cells_38 bytes_38 scal_38 zero_38 cells_40 bytes_40 str_40 ff_40 fld_40_0 fld_40_1 fld_40_2 fld_40_3 fld_40_4 fld_40_5 fld_40_6 fld_40_7 sfld_40_0 sfld_40_1 sfld_40_2 sfld_40_3 sfld_40_4 sfld_40_5 sfld_40_6 sfld_40_7 zero_40 cells_43 bytes_43 scal_43 zero_43 cells_45 bytes_45 str_45 ff_45 fld_45_0 fld_45_1 fld_45_2 fld_45_3 fld_45_4 fld_45_5 fld_45_6 fld_45_7 sfld_45_0 sfld_45_1 sfld_45_2 sfld_45_3 sfld_45_4 sfld_45_5 sfld_45_6 sfld_45_7 zero_45 cells_50 bytes_50 str_50 ff_50 fld_50_0 fld_50_1 fld_50_2 fld_50_3 fld_50_4 fld_50_5 fld_50_6 sfld_50_0 sfld_50_1 sfld_50_2 sfld_50_3 sfld_50_4 sfld_50_5 sfld_50_6 zero_50 cells_54 bytes_54 str_54 ff_54 fld_54_0 fld_54_1 fld_54_2 fld_54_3 fld_54_4 fld_54_5 fld_54_6 sfld_54_0 sfld_54_1 sfld_54_2 sfld_54_3 sfld_54_4 sfld_54_5 sfld_54_6 zero_54 cells_58 bytes_58 scal_58 zero_58 cells_65 bytes_65 str_65 ff_65 fld_65_0 fld_65_1 fld_65_2 fld_65_3 sfld_65_0 sfld_65_1 sfld_65_2 sfld_65_3 zero_65 cells_67 bytes_67 str_67 ff_67 fld_67_0 fld_67_1 fld_67_2 sfld_67_0 sfld_67_1 sfld_67_2 zero_67 cells_71 bytes_71 str_71 ff_71 fld_71_0 fld_71_1 fld_71_2 fld_71_3 sfld_71_0 sfld_71_1 sfld_71_2 sfld_71_3 zero_71 cells_73 bytes_73 str_73 ff_73 fld_73_0 fld_73_1 fld_73_2 sfld_73_0 sfld_73_1 sfld_73_2 zero_73 cells_77 bytes_77 scal_77 zero_77 cells_110 bytes_110 str_110 ff_110 fld_110_0 fld_110_1 fld_110_2 fld_110_3 sfld_110_0 sfld_110_1 sfld_110_2 sfld_110_3 zero_110 cells_134 bytes_134 str_134 ff_134 fld_134_0 fld_134_1 fld_134_2 sfld_134_0 sfld_134_1 sfld_134_2 zero_134 cells_135 bytes_135 scal_135 zero_135 cells_141 bytes_141 str_141 ff_141 fld_141_0 fld_141_1 sfld_141_0 sfld_141_1 zero_141 cells_143 bytes_143 str_143 ff_143 fld_143_0 fld_143_1 sfld_143_0 sfld_143_1 zero_143 cells_149 bytes_149 scal_149 zero_149 cells_151 bytes_151 scal_151 zero_151 cells_165 bytes_165 str_165 ff_165 fld_165_0 fld_165_1 sfld_165_0 sfld_165_1 cells_180 bytes_180 str_180 ff_180 fld_180_0 fld_180_1 sfld_180_0 sfld_180_1 zero_180 cells_189 bytes_189 scal_189 zero_189 cells_194 bytes_194 scal_194 zero_194 cells_207 bytes_207 str_207 ff_207 fld_207_0 fld_207_1 fld_207_2 sfld_207_0 sfld_207_1 sfld_207_2 cells_213 bytes_213 str_213 ff_213 fld_213_0 sfld_213_0 zero_213 cells_223 bytes_223 scal_223 zero_223
end Go.Proofs.YthokmmknbbghbaaDoor.Ty
