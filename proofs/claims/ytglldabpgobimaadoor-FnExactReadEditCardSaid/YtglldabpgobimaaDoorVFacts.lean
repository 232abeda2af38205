/- Facts on the types of the program, each looked up in it. -/
import Derived.Test.YtglldabpgobimaaDoorVmSet
import Derived.Test.YtglldabpgobimaaDoorProg
import Derived.KernelRfl
namespace Go.Proofs.YtglldabpgobimaaDoor.Ty
open Go Go.VM
set_option maxRecDepth 100000
theorem cells_2 : Tryd.prog.cellsOf 2 = 1 := by kernel_rfl
theorem bytes_2 : Tryd.prog.bytesOf 2 = 8 := by kernel_rfl
theorem scal_2 : isScalarT Tryd.prog 2 = true := by kernel_rfl
theorem zero_2 : zeroV Tryd.prog 2 = some (.int .i64 0) := by kernel_rfl
theorem cells_3 : Tryd.prog.cellsOf 3 = 1 := by kernel_rfl
theorem bytes_3 : Tryd.prog.bytesOf 3 = 8 := by kernel_rfl
theorem scal_3 : isScalarT Tryd.prog 3 = true := by kernel_rfl
theorem zero_3 : zeroV Tryd.prog 3 = some (.int .i64 0) := by kernel_rfl
theorem cells_4 : Tryd.prog.cellsOf 4 = 1 := by kernel_rfl
theorem bytes_4 : Tryd.prog.bytesOf 4 = 1 := by kernel_rfl
theorem scal_4 : isScalarT Tryd.prog 4 = true := by kernel_rfl
theorem zero_4 : zeroV Tryd.prog 4 = some (.bool false) := by kernel_rfl
theorem cells_5 : Tryd.prog.cellsOf 5 = 1 := by kernel_rfl
theorem bytes_5 : Tryd.prog.bytesOf 5 = 1 := by kernel_rfl
theorem scal_5 : isScalarT Tryd.prog 5 = true := by kernel_rfl
theorem zero_5 : zeroV Tryd.prog 5 = some (.int .u8 0) := by kernel_rfl
theorem cells_6 : Tryd.prog.cellsOf 6 = 1 := by kernel_rfl
theorem bytes_6 : Tryd.prog.bytesOf 6 = 1 := by kernel_rfl
theorem scal_6 : isScalarT Tryd.prog 6 = true := by kernel_rfl
theorem zero_6 : zeroV Tryd.prog 6 = some (.int .u8 0) := by kernel_rfl
theorem cells_8 : Tryd.prog.cellsOf 8 = 4 := by kernel_rfl
theorem bytes_8 : Tryd.prog.bytesOf 8 = 24 := by kernel_rfl
theorem str_8 : isStruct Tryd.prog 8 = true := by kernel_rfl
theorem ff_8 : fieldsFlat Tryd.prog 8 = true := by kernel_rfl
theorem fld_8_0 : fieldAt Tryd.prog 8 0 = true := by kernel_rfl
theorem sfld_8_0 : scalarField Tryd.prog 8 0 = true := by kernel_rfl
theorem fld_8_1 : fieldAt Tryd.prog 8 1 = true := by kernel_rfl
theorem sfld_8_1 : scalarField Tryd.prog 8 1 = true := by kernel_rfl
theorem fld_8_2 : fieldAt Tryd.prog 8 2 = true := by kernel_rfl
theorem sfld_8_2 : scalarField Tryd.prog 8 2 = true := by kernel_rfl
theorem fld_8_3 : fieldAt Tryd.prog 8 3 = true := by kernel_rfl
theorem sfld_8_3 : scalarField Tryd.prog 8 3 = true := by kernel_rfl
theorem zero_8 : zeroV Tryd.prog 8 = some (.agg [.int .i64 0, .int .i64 0, .bool false, .int .u8 0]) := by kernel_rfl
theorem cells_9 : Tryd.prog.cellsOf 9 = 1 := by kernel_rfl
theorem bytes_9 : Tryd.prog.bytesOf 9 = 16 := by kernel_rfl
theorem scal_9 : isScalarT Tryd.prog 9 = true := by kernel_rfl
theorem zero_9 : zeroV Tryd.prog 9 = some (.str []) := by kernel_rfl
theorem cells_10 : Tryd.prog.cellsOf 10 = 1 := by kernel_rfl
theorem bytes_10 : Tryd.prog.bytesOf 10 = 16 := by kernel_rfl
theorem scal_10 : isScalarT Tryd.prog 10 = true := by kernel_rfl
theorem zero_10 : zeroV Tryd.prog 10 = some (.str []) := by kernel_rfl
theorem cells_11 : Tryd.prog.cellsOf 11 = 1 := by kernel_rfl
theorem bytes_11 : Tryd.prog.bytesOf 11 = 16 := by kernel_rfl
theorem scal_11 : isScalarT Tryd.prog 11 = true := by kernel_rfl
theorem zero_11 : zeroV Tryd.prog 11 = some (.str []) := by kernel_rfl
theorem cells_12 : Tryd.prog.cellsOf 12 = 1 := by kernel_rfl
theorem bytes_12 : Tryd.prog.bytesOf 12 = 8 := by kernel_rfl
theorem scal_12 : isScalarT Tryd.prog 12 = true := by kernel_rfl
theorem zero_12 : zeroV Tryd.prog 12 = some (.int .u64 0) := by kernel_rfl
theorem cells_14 : Tryd.prog.cellsOf 14 = 2 := by kernel_rfl
theorem bytes_14 : Tryd.prog.bytesOf 14 = 24 := by kernel_rfl
theorem str_14 : isStruct Tryd.prog 14 = true := by kernel_rfl
theorem ff_14 : fieldsFlat Tryd.prog 14 = true := by kernel_rfl
theorem fld_14_0 : fieldAt Tryd.prog 14 0 = true := by kernel_rfl
theorem sfld_14_0 : scalarField Tryd.prog 14 0 = true := by kernel_rfl
theorem fld_14_1 : fieldAt Tryd.prog 14 1 = true := by kernel_rfl
theorem sfld_14_1 : scalarField Tryd.prog 14 1 = true := by kernel_rfl
theorem zero_14 : zeroV Tryd.prog 14 = some (.agg [.str [], .int .u64 0]) := by kernel_rfl
theorem cells_19 : Tryd.prog.cellsOf 19 = 1 := by kernel_rfl
theorem bytes_19 : Tryd.prog.bytesOf 19 = 8 := by kernel_rfl
theorem str_19 : isStruct Tryd.prog 19 = true := by kernel_rfl
theorem ff_19 : fieldsFlat Tryd.prog 19 = true := by kernel_rfl
theorem fld_19_0 : fieldAt Tryd.prog 19 0 = true := by kernel_rfl
theorem sfld_19_0 : scalarField Tryd.prog 19 0 = true := by kernel_rfl
theorem cells_21 : Tryd.prog.cellsOf 21 = 1 := by kernel_rfl
theorem bytes_21 : Tryd.prog.bytesOf 21 = 4 := by kernel_rfl
theorem scal_21 : isScalarT Tryd.prog 21 = true := by kernel_rfl
theorem zero_21 : zeroV Tryd.prog 21 = some (.int .i32 0) := by kernel_rfl
theorem cells_22 : Tryd.prog.cellsOf 22 = 1 := by kernel_rfl
theorem bytes_22 : Tryd.prog.bytesOf 22 = 24 := by kernel_rfl
theorem scal_22 : isScalarT Tryd.prog 22 = true := by kernel_rfl
theorem zero_22 : zeroV Tryd.prog 22 = some (.nils 4) := by kernel_rfl
theorem cells_23 : Tryd.prog.cellsOf 23 = 1 := by kernel_rfl
theorem bytes_23 : Tryd.prog.bytesOf 23 = 24 := by kernel_rfl
theorem scal_23 : isScalarT Tryd.prog 23 = true := by kernel_rfl
theorem zero_23 : zeroV Tryd.prog 23 = some (.nils 2) := by kernel_rfl
theorem cells_25 : Tryd.prog.cellsOf 25 = 7 := by kernel_rfl
theorem bytes_25 : Tryd.prog.bytesOf 25 = 96 := by kernel_rfl
theorem str_25 : isStruct Tryd.prog 25 = true := by kernel_rfl
theorem ff_25 : fieldsFlat Tryd.prog 25 = true := by kernel_rfl
theorem fld_25_0 : fieldAt Tryd.prog 25 0 = true := by kernel_rfl
theorem sfld_25_0 : scalarField Tryd.prog 25 0 = true := by kernel_rfl
theorem fld_25_1 : fieldAt Tryd.prog 25 1 = true := by kernel_rfl
theorem sfld_25_1 : scalarField Tryd.prog 25 1 = true := by kernel_rfl
theorem fld_25_2 : fieldAt Tryd.prog 25 2 = true := by kernel_rfl
theorem sfld_25_2 : scalarField Tryd.prog 25 2 = true := by kernel_rfl
theorem fld_25_3 : fieldAt Tryd.prog 25 3 = true := by kernel_rfl
theorem sfld_25_3 : scalarField Tryd.prog 25 3 = true := by kernel_rfl
theorem fld_25_4 : fieldAt Tryd.prog 25 4 = true := by kernel_rfl
theorem sfld_25_4 : scalarField Tryd.prog 25 4 = true := by kernel_rfl
theorem fld_25_5 : fieldAt Tryd.prog 25 5 = true := by kernel_rfl
theorem sfld_25_5 : scalarField Tryd.prog 25 5 = true := by kernel_rfl
theorem fld_25_6 : fieldAt Tryd.prog 25 6 = true := by kernel_rfl
theorem sfld_25_6 : scalarField Tryd.prog 25 6 = true := by kernel_rfl
theorem zero_25 : zeroV Tryd.prog 25 = some (.agg [.str [], .int .i64 0, .int .i64 0, .int .i64 0, .nils 4, .nils 2, .int .i64 0]) := by kernel_rfl
theorem cells_26 : Tryd.prog.cellsOf 26 = 1 := by kernel_rfl
theorem bytes_26 : Tryd.prog.bytesOf 26 = 24 := by kernel_rfl
theorem scal_26 : isScalarT Tryd.prog 26 = true := by kernel_rfl
theorem zero_26 : zeroV Tryd.prog 26 = some (.nils 2) := by kernel_rfl
theorem cells_29 : Tryd.prog.cellsOf 29 = 1 := by kernel_rfl
theorem bytes_29 : Tryd.prog.bytesOf 29 = 24 := by kernel_rfl
theorem scal_29 : isScalarT Tryd.prog 29 = true := by kernel_rfl
theorem zero_29 : zeroV Tryd.prog 29 = some (.nils 1) := by kernel_rfl
theorem cells_31 : Tryd.prog.cellsOf 31 = 1 := by kernel_rfl
theorem bytes_31 : Tryd.prog.bytesOf 31 = 24 := by kernel_rfl
theorem scal_31 : isScalarT Tryd.prog 31 = true := by kernel_rfl
theorem zero_31 : zeroV Tryd.prog 31 = some (.nils 4) := by kernel_rfl
theorem cells_32 : Tryd.prog.cellsOf 32 = 1 := by kernel_rfl
theorem bytes_32 : Tryd.prog.bytesOf 32 = 24 := by kernel_rfl
theorem scal_32 : isScalarT Tryd.prog 32 = true := by kernel_rfl
theorem zero_32 : zeroV Tryd.prog 32 = some (.nils 2) := by kernel_rfl
theorem cells_34 : Tryd.prog.cellsOf 34 = 7 := by kernel_rfl
theorem bytes_34 : Tryd.prog.bytesOf 34 = 96 := by kernel_rfl
theorem str_34 : isStruct Tryd.prog 34 = true := by kernel_rfl
theorem ff_34 : fieldsFlat Tryd.prog 34 = true := by kernel_rfl
theorem fld_34_0 : fieldAt Tryd.prog 34 0 = true := by kernel_rfl
theorem sfld_34_0 : scalarField Tryd.prog 34 0 = true := by kernel_rfl
theorem fld_34_1 : fieldAt Tryd.prog 34 1 = true := by kernel_rfl
theorem sfld_34_1 : scalarField Tryd.prog 34 1 = true := by kernel_rfl
theorem fld_34_2 : fieldAt Tryd.prog 34 2 = true := by kernel_rfl
theorem sfld_34_2 : scalarField Tryd.prog 34 2 = true := by kernel_rfl
theorem fld_34_3 : fieldAt Tryd.prog 34 3 = true := by kernel_rfl
theorem sfld_34_3 : scalarField Tryd.prog 34 3 = true := by kernel_rfl
theorem fld_34_4 : fieldAt Tryd.prog 34 4 = true := by kernel_rfl
theorem sfld_34_4 : scalarField Tryd.prog 34 4 = true := by kernel_rfl
theorem fld_34_5 : fieldAt Tryd.prog 34 5 = true := by kernel_rfl
theorem sfld_34_5 : scalarField Tryd.prog 34 5 = true := by kernel_rfl
theorem fld_34_6 : fieldAt Tryd.prog 34 6 = true := by kernel_rfl
theorem sfld_34_6 : scalarField Tryd.prog 34 6 = true := by kernel_rfl
theorem zero_34 : zeroV Tryd.prog 34 = some (.agg [.str [], .int .i64 0, .int .i64 0, .int .i64 0, .nils 4, .nils 2, .int .i64 0]) := by kernel_rfl
theorem cells_36 : Tryd.prog.cellsOf 36 = 1 := by kernel_rfl
theorem bytes_36 : Tryd.prog.bytesOf 36 = 24 := by kernel_rfl
theorem scal_36 : isScalarT Tryd.prog 36 = true := by kernel_rfl
theorem zero_36 : zeroV Tryd.prog 36 = some (.nils 2) := by kernel_rfl
theorem cells_46 : Tryd.prog.cellsOf 46 = 8 := by kernel_rfl
theorem bytes_46 : Tryd.prog.bytesOf 46 = 104 := by kernel_rfl
theorem str_46 : isStruct Tryd.prog 46 = true := by kernel_rfl
theorem ff_46 : fieldsFlat Tryd.prog 46 = true := by kernel_rfl
theorem fld_46_0 : fieldAt Tryd.prog 46 0 = true := by kernel_rfl
theorem sfld_46_0 : scalarField Tryd.prog 46 0 = true := by kernel_rfl
theorem fld_46_1 : fieldAt Tryd.prog 46 1 = true := by kernel_rfl
theorem sfld_46_1 : scalarField Tryd.prog 46 1 = true := by kernel_rfl
theorem fld_46_2 : fieldAt Tryd.prog 46 2 = true := by kernel_rfl
theorem sfld_46_2 : scalarField Tryd.prog 46 2 = true := by kernel_rfl
theorem fld_46_3 : fieldAt Tryd.prog 46 3 = true := by kernel_rfl
theorem sfld_46_3 : scalarField Tryd.prog 46 3 = true := by kernel_rfl
theorem fld_46_4 : fieldAt Tryd.prog 46 4 = true := by kernel_rfl
theorem sfld_46_4 : scalarField Tryd.prog 46 4 = true := by kernel_rfl
theorem fld_46_5 : fieldAt Tryd.prog 46 5 = true := by kernel_rfl
theorem sfld_46_5 : scalarField Tryd.prog 46 5 = true := by kernel_rfl
theorem fld_46_6 : fieldAt Tryd.prog 46 6 = true := by kernel_rfl
theorem sfld_46_6 : scalarField Tryd.prog 46 6 = true := by kernel_rfl
theorem fld_46_7 : fieldAt Tryd.prog 46 7 = true := by kernel_rfl
theorem sfld_46_7 : scalarField Tryd.prog 46 7 = true := by kernel_rfl
theorem zero_46 : zeroV Tryd.prog 46 = some (.agg [.int .i64 0, .str [], .str [], .nils 2, .int .i64 0, .int .i64 0, .int .i64 0, .str []]) := by kernel_rfl
theorem cells_54 : Tryd.prog.cellsOf 54 = 1 := by kernel_rfl
theorem bytes_54 : Tryd.prog.bytesOf 54 = 24 := by kernel_rfl
theorem scal_54 : isScalarT Tryd.prog 54 = true := by kernel_rfl
theorem zero_54 : zeroV Tryd.prog 54 = some (.nils 1) := by kernel_rfl
theorem cells_58 : Tryd.prog.cellsOf 58 = 4 := by kernel_rfl
theorem bytes_58 : Tryd.prog.bytesOf 58 = 40 := by kernel_rfl
theorem str_58 : isStruct Tryd.prog 58 = true := by kernel_rfl
theorem ff_58 : fieldsFlat Tryd.prog 58 = true := by kernel_rfl
theorem fld_58_0 : fieldAt Tryd.prog 58 0 = true := by kernel_rfl
theorem sfld_58_0 : scalarField Tryd.prog 58 0 = true := by kernel_rfl
theorem fld_58_1 : fieldAt Tryd.prog 58 1 = true := by kernel_rfl
theorem sfld_58_1 : scalarField Tryd.prog 58 1 = true := by kernel_rfl
theorem fld_58_2 : fieldAt Tryd.prog 58 2 = true := by kernel_rfl
theorem sfld_58_2 : scalarField Tryd.prog 58 2 = true := by kernel_rfl
theorem fld_58_3 : fieldAt Tryd.prog 58 3 = true := by kernel_rfl
theorem sfld_58_3 : scalarField Tryd.prog 58 3 = true := by kernel_rfl
theorem zero_58 : zeroV Tryd.prog 58 = some (.agg [.int .i64 0, .int .i64 0, .int .i64 0, .str []]) := by kernel_rfl
theorem cells_60 : Tryd.prog.cellsOf 60 = 1 := by kernel_rfl
theorem bytes_60 : Tryd.prog.bytesOf 60 = 24 := by kernel_rfl
theorem scal_60 : isScalarT Tryd.prog 60 = true := by kernel_rfl
theorem zero_60 : zeroV Tryd.prog 60 = some (.nils 1) := by kernel_rfl
theorem cells_64 : Tryd.prog.cellsOf 64 = 2 := by kernel_rfl
theorem bytes_64 : Tryd.prog.bytesOf 64 = 16 := by kernel_rfl
theorem str_64 : isStruct Tryd.prog 64 = true := by kernel_rfl
theorem ff_64 : fieldsFlat Tryd.prog 64 = true := by kernel_rfl
theorem fld_64_0 : fieldAt Tryd.prog 64 0 = true := by kernel_rfl
theorem sfld_64_0 : scalarField Tryd.prog 64 0 = true := by kernel_rfl
theorem fld_64_1 : fieldAt Tryd.prog 64 1 = true := by kernel_rfl
theorem sfld_64_1 : scalarField Tryd.prog 64 1 = true := by kernel_rfl
theorem zero_64 : zeroV Tryd.prog 64 = some (.agg [.int .i64 0, .int .i64 0]) := by kernel_rfl
theorem cells_66 : Tryd.prog.cellsOf 66 = 2 := by kernel_rfl
theorem bytes_66 : Tryd.prog.bytesOf 66 = 16 := by kernel_rfl
theorem str_66 : isStruct Tryd.prog 66 = true := by kernel_rfl
theorem ff_66 : fieldsFlat Tryd.prog 66 = true := by kernel_rfl
theorem fld_66_0 : fieldAt Tryd.prog 66 0 = true := by kernel_rfl
theorem sfld_66_0 : scalarField Tryd.prog 66 0 = true := by kernel_rfl
theorem fld_66_1 : fieldAt Tryd.prog 66 1 = true := by kernel_rfl
theorem sfld_66_1 : scalarField Tryd.prog 66 1 = true := by kernel_rfl
theorem zero_66 : zeroV Tryd.prog 66 = some (.agg [.int .i64 0, .int .i64 0]) := by kernel_rfl
theorem cells_79 : Tryd.prog.cellsOf 79 = 3 := by kernel_rfl
theorem bytes_79 : Tryd.prog.bytesOf 79 = 32 := by kernel_rfl
theorem str_79 : isStruct Tryd.prog 79 = true := by kernel_rfl
theorem ff_79 : fieldsFlat Tryd.prog 79 = true := by kernel_rfl
theorem fld_79_0 : fieldAt Tryd.prog 79 0 = true := by kernel_rfl
theorem sfld_79_0 : scalarField Tryd.prog 79 0 = true := by kernel_rfl
theorem fld_79_1 : fieldAt Tryd.prog 79 1 = true := by kernel_rfl
theorem sfld_79_1 : scalarField Tryd.prog 79 1 = true := by kernel_rfl
theorem fld_79_2 : fieldAt Tryd.prog 79 2 = true := by kernel_rfl
theorem sfld_79_2 : scalarField Tryd.prog 79 2 = true := by kernel_rfl
theorem zero_79 : zeroV Tryd.prog 79 = some (.agg [.str [], .int .i64 0, .bool false]) := by kernel_rfl
theorem cells_88 : Tryd.prog.cellsOf 88 = 3 := by kernel_rfl
theorem bytes_88 : Tryd.prog.bytesOf 88 = 32 := by kernel_rfl
theorem str_88 : isStruct Tryd.prog 88 = true := by kernel_rfl
theorem ff_88 : fieldsFlat Tryd.prog 88 = true := by kernel_rfl
theorem fld_88_0 : fieldAt Tryd.prog 88 0 = true := by kernel_rfl
theorem sfld_88_0 : scalarField Tryd.prog 88 0 = true := by kernel_rfl
theorem fld_88_1 : fieldAt Tryd.prog 88 1 = true := by kernel_rfl
theorem sfld_88_1 : scalarField Tryd.prog 88 1 = true := by kernel_rfl
theorem fld_88_2 : fieldAt Tryd.prog 88 2 = true := by kernel_rfl
theorem sfld_88_2 : scalarField Tryd.prog 88 2 = true := by kernel_rfl
theorem zero_88 : zeroV Tryd.prog 88 = some (.agg [.str [], .int .i64 0, .bool false]) := by kernel_rfl
theorem cells_92 : Tryd.prog.cellsOf 92 = 4 := by kernel_rfl
theorem bytes_92 : Tryd.prog.bytesOf 92 = 40 := by kernel_rfl
theorem str_92 : isStruct Tryd.prog 92 = true := by kernel_rfl
theorem ff_92 : fieldsFlat Tryd.prog 92 = true := by kernel_rfl
theorem fld_92_0 : fieldAt Tryd.prog 92 0 = true := by kernel_rfl
theorem sfld_92_0 : scalarField Tryd.prog 92 0 = true := by kernel_rfl
theorem fld_92_1 : fieldAt Tryd.prog 92 1 = true := by kernel_rfl
theorem sfld_92_1 : scalarField Tryd.prog 92 1 = true := by kernel_rfl
theorem fld_92_2 : fieldAt Tryd.prog 92 2 = true := by kernel_rfl
theorem sfld_92_2 : scalarField Tryd.prog 92 2 = true := by kernel_rfl
theorem fld_92_3 : fieldAt Tryd.prog 92 3 = true := by kernel_rfl
theorem sfld_92_3 : scalarField Tryd.prog 92 3 = true := by kernel_rfl
theorem zero_92 : zeroV Tryd.prog 92 = some (.agg [.int .i64 0, .int .i64 0, .int .i64 0, .str []]) := by kernel_rfl
theorem cells_96 : Tryd.prog.cellsOf 96 = 2 := by kernel_rfl
theorem bytes_96 : Tryd.prog.bytesOf 96 = 16 := by kernel_rfl
theorem str_96 : isStruct Tryd.prog 96 = true := by kernel_rfl
theorem ff_96 : fieldsFlat Tryd.prog 96 = true := by kernel_rfl
theorem fld_96_0 : fieldAt Tryd.prog 96 0 = true := by kernel_rfl
theorem sfld_96_0 : scalarField Tryd.prog 96 0 = true := by kernel_rfl
theorem fld_96_1 : fieldAt Tryd.prog 96 1 = true := by kernel_rfl
theorem sfld_96_1 : scalarField Tryd.prog 96 1 = true := by kernel_rfl
theorem zero_96 : zeroV Tryd.prog 96 = some (.agg [.int .i64 0, .int .i64 0]) := by kernel_rfl
theorem cells_102 : Tryd.prog.cellsOf 102 = 2 := by kernel_rfl
theorem bytes_102 : Tryd.prog.bytesOf 102 = 16 := by kernel_rfl
theorem str_102 : isStruct Tryd.prog 102 = true := by kernel_rfl
theorem ff_102 : fieldsFlat Tryd.prog 102 = true := by kernel_rfl
theorem fld_102_0 : fieldAt Tryd.prog 102 0 = true := by kernel_rfl
theorem sfld_102_0 : scalarField Tryd.prog 102 0 = true := by kernel_rfl
theorem fld_102_1 : fieldAt Tryd.prog 102 1 = true := by kernel_rfl
theorem sfld_102_1 : scalarField Tryd.prog 102 1 = true := by kernel_rfl
theorem zero_102 : zeroV Tryd.prog 102 = some (.agg [.int .i64 0, .int .i64 0]) := by kernel_rfl
theorem cells_110 : Tryd.prog.cellsOf 110 = 1 := by kernel_rfl
theorem bytes_110 : Tryd.prog.bytesOf 110 = 24 := by kernel_rfl
theorem scal_110 : isScalarT Tryd.prog 110 = true := by kernel_rfl
theorem zero_110 : zeroV Tryd.prog 110 = some (.nils 1) := by kernel_rfl
theorem cells_113 : Tryd.prog.cellsOf 113 = 1 := by kernel_rfl
theorem bytes_113 : Tryd.prog.bytesOf 113 = 24 := by kernel_rfl
theorem scal_113 : isScalarT Tryd.prog 113 = true := by kernel_rfl
theorem zero_113 : zeroV Tryd.prog 113 = some (.nils 1) := by kernel_rfl
theorem cells_143 : Tryd.prog.cellsOf 143 = 2 := by kernel_rfl
theorem bytes_143 : Tryd.prog.bytesOf 143 = 32 := by kernel_rfl
theorem str_143 : isStruct Tryd.prog 143 = true := by kernel_rfl
theorem ff_143 : fieldsFlat Tryd.prog 143 = true := by kernel_rfl
theorem fld_143_0 : fieldAt Tryd.prog 143 0 = true := by kernel_rfl
theorem sfld_143_0 : scalarField Tryd.prog 143 0 = true := by kernel_rfl
theorem fld_143_1 : fieldAt Tryd.prog 143 1 = true := by kernel_rfl
theorem sfld_143_1 : scalarField Tryd.prog 143 1 = true := by kernel_rfl
theorem cells_159 : Tryd.prog.cellsOf 159 = 1 := by kernel_rfl
theorem bytes_159 : Tryd.prog.bytesOf 159 = 8 := by kernel_rfl
theorem scal_159 : isScalarT Tryd.prog 159 = true := by kernel_rfl
theorem zero_159 : zeroV Tryd.prog 159 = some (.int .u64 0) := by kernel_rfl
theorem cells_162 : Tryd.prog.cellsOf 162 = 1 := by kernel_rfl
theorem bytes_162 : Tryd.prog.bytesOf 162 = 4 := by kernel_rfl
theorem scal_162 : isScalarT Tryd.prog 162 = true := by kernel_rfl
theorem zero_162 : zeroV Tryd.prog 162 = some (.int .u32 0) := by kernel_rfl
theorem cells_171 : Tryd.prog.cellsOf 171 = 2 := by kernel_rfl
theorem bytes_171 : Tryd.prog.bytesOf 171 = 2 := by kernel_rfl
theorem str_171 : isStruct Tryd.prog 171 = true := by kernel_rfl
theorem ff_171 : fieldsFlat Tryd.prog 171 = true := by kernel_rfl
theorem fld_171_0 : fieldAt Tryd.prog 171 0 = true := by kernel_rfl
theorem sfld_171_0 : scalarField Tryd.prog 171 0 = true := by kernel_rfl
theorem fld_171_1 : fieldAt Tryd.prog 171 1 = true := by kernel_rfl
theorem sfld_171_1 : scalarField Tryd.prog 171 1 = true := by kernel_rfl
theorem zero_171 : zeroV Tryd.prog 171 = some (.agg [.int .u8 0, .int .u8 0]) := by kernel_rfl
theorem cells_175 : Tryd.prog.cellsOf 175 = 1 := by kernel_rfl
theorem bytes_175 : Tryd.prog.bytesOf 175 = 8 := by kernel_rfl
theorem scal_175 : isScalarT Tryd.prog 175 = true := by kernel_rfl
theorem zero_175 : zeroV Tryd.prog 175 = some (.int .u64 0) := by kernel_rfl
theorem cells_193 : Tryd.prog.cellsOf 193 = 1 := by kernel_rfl
theorem bytes_193 : Tryd.prog.bytesOf 193 = 1 := by kernel_rfl
theorem scal_193 : isScalarT Tryd.prog 193 = true := by kernel_rfl
theorem zero_193 : zeroV Tryd.prog 193 = some (.int .u8 0) := by kernel_rfl
attribute [go_sem] Tryd.underlying2 Tryd.underlying3 Tryd.underlying4 Tryd.underlying5 Tryd.underlying6 Tryd.underlying8 Tryd.underlying9 Tryd.underlying10 Tryd.underlying11 Tryd.underlying12 Tryd.underlying14 Tryd.underlying19 Tryd.underlying21 Tryd.underlying22 Tryd.underlying23 Tryd.underlying25 Tryd.underlying26 Tryd.underlying29 Tryd.underlying31 Tryd.underlying32 Tryd.underlying34 Tryd.underlying36 Tryd.underlying46 Tryd.underlying54 Tryd.underlying58 Tryd.underlying60 Tryd.underlying64 Tryd.underlying66 Tryd.underlying79 Tryd.underlying88 Tryd.underlying92 Tryd.underlying96 Tryd.underlying102 Tryd.underlying110 Tryd.underlying113 Tryd.underlying143 Tryd.underlying159 Tryd.underlying162 Tryd.underlying171 Tryd.underlying175 Tryd.underlying193 cells_2 bytes_2 scal_2 zero_2 cells_3 bytes_3 scal_3 zero_3 cells_4 bytes_4 scal_4 zero_4 cells_5 bytes_5 scal_5 zero_5 cells_6 bytes_6 scal_6 zero_6 cells_8 bytes_8 str_8 ff_8 fld_8_0 fld_8_1 fld_8_2 fld_8_3 sfld_8_0 sfld_8_1 sfld_8_2 sfld_8_3 zero_8 cells_9 bytes_9 scal_9 zero_9 cells_10 bytes_10 scal_10 zero_10 cells_11 bytes_11 scal_11 zero_11 cells_12 bytes_12 scal_12 zero_12 cells_14 bytes_14 str_14 ff_14 fld_14_0 fld_14_1 sfld_14_0 sfld_14_1 zero_14 cells_19 bytes_19 str_19 ff_19 fld_19_0 sfld_19_0 cells_21 bytes_21 scal_21 zero_21 cells_22 bytes_22 scal_22 zero_22 cells_23 bytes_23 scal_23 zero_23 cells_25 bytes_25 str_25 ff_25 fld_25_0 fld_25_1 fld_25_2 fld_25_3 fld_25_4 fld_25_5 fld_25_6 sfld_25_0 sfld_25_1 sfld_25_2 sfld_25_3 sfld_25_4 sfld_25_5 sfld_25_6 zero_25 cells_26 bytes_26 scal_26 zero_26 cells_29 bytes_29 scal_29 zero_29 cells_31 bytes_31 scal_31 zero_31 cells_32 bytes_32 scal_32 zero_32 cells_34 bytes_34 str_34 ff_34 fld_34_0 fld_34_1 fld_34_2 fld_34_3 fld_34_4 fld_34_5 fld_34_6 sfld_34_0 sfld_34_1 sfld_34_2 sfld_34_3 sfld_34_4 sfld_34_5 sfld_34_6 zero_34 cells_36 bytes_36 scal_36 zero_36 cells_46 bytes_46 str_46 ff_46 fld_46_0 fld_46_1 fld_46_2 fld_46_3 fld_46_4 fld_46_5 fld_46_6 fld_46_7 sfld_46_0 sfld_46_1 sfld_46_2 sfld_46_3 sfld_46_4 sfld_46_5 sfld_46_6 sfld_46_7 zero_46 cells_54 bytes_54 scal_54 zero_54 cells_58 bytes_58 str_58 ff_58 fld_58_0 fld_58_1 fld_58_2 fld_58_3 sfld_58_0 sfld_58_1 sfld_58_2 sfld_58_3 zero_58 cells_60 bytes_60 scal_60 zero_60 cells_64 bytes_64 str_64 ff_64 fld_64_0 fld_64_1 sfld_64_0 sfld_64_1 zero_64 cells_66 bytes_66 str_66 ff_66 fld_66_0 fld_66_1 sfld_66_0 sfld_66_1 zero_66 cells_79 bytes_79 str_79 ff_79 fld_79_0 fld_79_1 fld_79_2 sfld_79_0 sfld_79_1 sfld_79_2 zero_79 cells_88 bytes_88 str_88 ff_88 fld_88_0 fld_88_1 fld_88_2 sfld_88_0 sfld_88_1 sfld_88_2 zero_88 cells_92 bytes_92 str_92 ff_92 fld_92_0 fld_92_1 fld_92_2 fld_92_3 sfld_92_0 sfld_92_1 sfld_92_2 sfld_92_3 zero_92 cells_96 bytes_96 str_96 ff_96 fld_96_0 fld_96_1 sfld_96_0 sfld_96_1 zero_96 cells_102 bytes_102 str_102 ff_102 fld_102_0 fld_102_1 sfld_102_0 sfld_102_1 zero_102 cells_110 bytes_110 scal_110 zero_110 cells_113 bytes_113 scal_113 zero_113 cells_143 bytes_143 str_143 ff_143 fld_143_0 fld_143_1 sfld_143_0 sfld_143_1 cells_159 bytes_159 scal_159 zero_159 cells_162 bytes_162 scal_162 zero_162 cells_171 bytes_171 str_171 ff_171 fld_171_0 fld_171_1 sfld_171_0 sfld_171_1 zero_171 cells_175 bytes_175 scal_175 zero_175 cells_193 bytes_193 scal_193 zero_193
end Go.Proofs.YtglldabpgobimaaDoor.Ty
