/- Facts on the types of the program, each looked up in it. -/
import Derived.Test.YtimiccneikhkgaaGreatDoorVmSet
import Derived.Test.YtimiccneikhkgaaGreatDoorProg
import Derived.KernelRfl
namespace Go.Proofs.YtimiccneikhkgaaGreatDoor.Ty
open Go Go.VM
set_option maxRecDepth 100000
theorem cells_2 : Tryz.prog.cellsOf 2 = 1 := by kernel_rfl
theorem bytes_2 : Tryz.prog.bytesOf 2 = 8 := by kernel_rfl
theorem scal_2 : isScalarT Tryz.prog 2 = true := by kernel_rfl
theorem zero_2 : zeroV Tryz.prog 2 = some (.int .i64 0) := by kernel_rfl
theorem cells_3 : Tryz.prog.cellsOf 3 = 1 := by kernel_rfl
theorem bytes_3 : Tryz.prog.bytesOf 3 = 8 := by kernel_rfl
theorem scal_3 : isScalarT Tryz.prog 3 = true := by kernel_rfl
theorem zero_3 : zeroV Tryz.prog 3 = some (.int .i64 0) := by kernel_rfl
theorem cells_4 : Tryz.prog.cellsOf 4 = 1 := by kernel_rfl
theorem bytes_4 : Tryz.prog.bytesOf 4 = 1 := by kernel_rfl
theorem scal_4 : isScalarT Tryz.prog 4 = true := by kernel_rfl
theorem zero_4 : zeroV Tryz.prog 4 = some (.bool false) := by kernel_rfl
theorem cells_5 : Tryz.prog.cellsOf 5 = 1 := by kernel_rfl
theorem bytes_5 : Tryz.prog.bytesOf 5 = 1 := by kernel_rfl
theorem scal_5 : isScalarT Tryz.prog 5 = true := by kernel_rfl
theorem zero_5 : zeroV Tryz.prog 5 = some (.int .u8 0) := by kernel_rfl
theorem cells_6 : Tryz.prog.cellsOf 6 = 1 := by kernel_rfl
theorem bytes_6 : Tryz.prog.bytesOf 6 = 1 := by kernel_rfl
theorem scal_6 : isScalarT Tryz.prog 6 = true := by kernel_rfl
theorem zero_6 : zeroV Tryz.prog 6 = some (.int .u8 0) := by kernel_rfl
theorem cells_8 : Tryz.prog.cellsOf 8 = 4 := by kernel_rfl
theorem bytes_8 : Tryz.prog.bytesOf 8 = 24 := by kernel_rfl
theorem str_8 : isStruct Tryz.prog 8 = true := by kernel_rfl
theorem ff_8 : fieldsFlat Tryz.prog 8 = true := by kernel_rfl
theorem fld_8_0 : fieldAt Tryz.prog 8 0 = true := by kernel_rfl
theorem sfld_8_0 : scalarField Tryz.prog 8 0 = true := by kernel_rfl
theorem fld_8_1 : fieldAt Tryz.prog 8 1 = true := by kernel_rfl
theorem sfld_8_1 : scalarField Tryz.prog 8 1 = true := by kernel_rfl
theorem fld_8_2 : fieldAt Tryz.prog 8 2 = true := by kernel_rfl
theorem sfld_8_2 : scalarField Tryz.prog 8 2 = true := by kernel_rfl
theorem fld_8_3 : fieldAt Tryz.prog 8 3 = true := by kernel_rfl
theorem sfld_8_3 : scalarField Tryz.prog 8 3 = true := by kernel_rfl
theorem zero_8 : zeroV Tryz.prog 8 = some (.agg [.int .i64 0, .int .i64 0, .bool false, .int .u8 0]) := by kernel_rfl
theorem cells_9 : Tryz.prog.cellsOf 9 = 1 := by kernel_rfl
theorem bytes_9 : Tryz.prog.bytesOf 9 = 16 := by kernel_rfl
theorem scal_9 : isScalarT Tryz.prog 9 = true := by kernel_rfl
theorem zero_9 : zeroV Tryz.prog 9 = some (.str []) := by kernel_rfl
theorem cells_10 : Tryz.prog.cellsOf 10 = 1 := by kernel_rfl
theorem bytes_10 : Tryz.prog.bytesOf 10 = 16 := by kernel_rfl
theorem scal_10 : isScalarT Tryz.prog 10 = true := by kernel_rfl
theorem zero_10 : zeroV Tryz.prog 10 = some (.str []) := by kernel_rfl
theorem cells_11 : Tryz.prog.cellsOf 11 = 1 := by kernel_rfl
theorem bytes_11 : Tryz.prog.bytesOf 11 = 16 := by kernel_rfl
theorem scal_11 : isScalarT Tryz.prog 11 = true := by kernel_rfl
theorem zero_11 : zeroV Tryz.prog 11 = some (.str []) := by kernel_rfl
theorem cells_12 : Tryz.prog.cellsOf 12 = 1 := by kernel_rfl
theorem bytes_12 : Tryz.prog.bytesOf 12 = 8 := by kernel_rfl
theorem scal_12 : isScalarT Tryz.prog 12 = true := by kernel_rfl
theorem zero_12 : zeroV Tryz.prog 12 = some (.int .u64 0) := by kernel_rfl
theorem cells_14 : Tryz.prog.cellsOf 14 = 2 := by kernel_rfl
theorem bytes_14 : Tryz.prog.bytesOf 14 = 24 := by kernel_rfl
theorem str_14 : isStruct Tryz.prog 14 = true := by kernel_rfl
theorem ff_14 : fieldsFlat Tryz.prog 14 = true := by kernel_rfl
theorem fld_14_0 : fieldAt Tryz.prog 14 0 = true := by kernel_rfl
theorem sfld_14_0 : scalarField Tryz.prog 14 0 = true := by kernel_rfl
theorem fld_14_1 : fieldAt Tryz.prog 14 1 = true := by kernel_rfl
theorem sfld_14_1 : scalarField Tryz.prog 14 1 = true := by kernel_rfl
theorem zero_14 : zeroV Tryz.prog 14 = some (.agg [.str [], .int .u64 0]) := by kernel_rfl
theorem cells_19 : Tryz.prog.cellsOf 19 = 1 := by kernel_rfl
theorem bytes_19 : Tryz.prog.bytesOf 19 = 8 := by kernel_rfl
theorem str_19 : isStruct Tryz.prog 19 = true := by kernel_rfl
theorem ff_19 : fieldsFlat Tryz.prog 19 = true := by kernel_rfl
theorem fld_19_0 : fieldAt Tryz.prog 19 0 = true := by kernel_rfl
theorem sfld_19_0 : scalarField Tryz.prog 19 0 = true := by kernel_rfl
theorem cells_21 : Tryz.prog.cellsOf 21 = 1 := by kernel_rfl
theorem bytes_21 : Tryz.prog.bytesOf 21 = 4 := by kernel_rfl
theorem scal_21 : isScalarT Tryz.prog 21 = true := by kernel_rfl
theorem zero_21 : zeroV Tryz.prog 21 = some (.int .i32 0) := by kernel_rfl
theorem cells_22 : Tryz.prog.cellsOf 22 = 1 := by kernel_rfl
theorem bytes_22 : Tryz.prog.bytesOf 22 = 24 := by kernel_rfl
theorem scal_22 : isScalarT Tryz.prog 22 = true := by kernel_rfl
theorem zero_22 : zeroV Tryz.prog 22 = some (.nils 1) := by kernel_rfl
theorem cells_24 : Tryz.prog.cellsOf 24 = 1 := by kernel_rfl
theorem bytes_24 : Tryz.prog.bytesOf 24 = 24 := by kernel_rfl
theorem scal_24 : isScalarT Tryz.prog 24 = true := by kernel_rfl
theorem zero_24 : zeroV Tryz.prog 24 = some (.nils 2) := by kernel_rfl
theorem cells_26 : Tryz.prog.cellsOf 26 = 8 := by kernel_rfl
theorem bytes_26 : Tryz.prog.bytesOf 26 = 104 := by kernel_rfl
theorem str_26 : isStruct Tryz.prog 26 = true := by kernel_rfl
theorem ff_26 : fieldsFlat Tryz.prog 26 = true := by kernel_rfl
theorem fld_26_0 : fieldAt Tryz.prog 26 0 = true := by kernel_rfl
theorem sfld_26_0 : scalarField Tryz.prog 26 0 = true := by kernel_rfl
theorem fld_26_1 : fieldAt Tryz.prog 26 1 = true := by kernel_rfl
theorem sfld_26_1 : scalarField Tryz.prog 26 1 = true := by kernel_rfl
theorem fld_26_2 : fieldAt Tryz.prog 26 2 = true := by kernel_rfl
theorem sfld_26_2 : scalarField Tryz.prog 26 2 = true := by kernel_rfl
theorem fld_26_3 : fieldAt Tryz.prog 26 3 = true := by kernel_rfl
theorem sfld_26_3 : scalarField Tryz.prog 26 3 = true := by kernel_rfl
theorem fld_26_4 : fieldAt Tryz.prog 26 4 = true := by kernel_rfl
theorem sfld_26_4 : scalarField Tryz.prog 26 4 = true := by kernel_rfl
theorem fld_26_5 : fieldAt Tryz.prog 26 5 = true := by kernel_rfl
theorem sfld_26_5 : scalarField Tryz.prog 26 5 = true := by kernel_rfl
theorem fld_26_6 : fieldAt Tryz.prog 26 6 = true := by kernel_rfl
theorem sfld_26_6 : scalarField Tryz.prog 26 6 = true := by kernel_rfl
theorem fld_26_7 : fieldAt Tryz.prog 26 7 = true := by kernel_rfl
theorem sfld_26_7 : scalarField Tryz.prog 26 7 = true := by kernel_rfl
theorem zero_26 : zeroV Tryz.prog 26 = some (.agg [.int .i64 0, .str [], .str [], .nils 2, .int .i64 0, .int .i64 0, .int .i64 0, .str []]) := by kernel_rfl
theorem cells_35 : Tryz.prog.cellsOf 35 = 1 := by kernel_rfl
theorem bytes_35 : Tryz.prog.bytesOf 35 = 24 := by kernel_rfl
theorem scal_35 : isScalarT Tryz.prog 35 = true := by kernel_rfl
theorem zero_35 : zeroV Tryz.prog 35 = some (.nils 4) := by kernel_rfl
theorem cells_36 : Tryz.prog.cellsOf 36 = 1 := by kernel_rfl
theorem bytes_36 : Tryz.prog.bytesOf 36 = 24 := by kernel_rfl
theorem scal_36 : isScalarT Tryz.prog 36 = true := by kernel_rfl
theorem zero_36 : zeroV Tryz.prog 36 = some (.nils 2) := by kernel_rfl
theorem cells_38 : Tryz.prog.cellsOf 38 = 7 := by kernel_rfl
theorem bytes_38 : Tryz.prog.bytesOf 38 = 96 := by kernel_rfl
theorem str_38 : isStruct Tryz.prog 38 = true := by kernel_rfl
theorem ff_38 : fieldsFlat Tryz.prog 38 = true := by kernel_rfl
theorem fld_38_0 : fieldAt Tryz.prog 38 0 = true := by kernel_rfl
theorem sfld_38_0 : scalarField Tryz.prog 38 0 = true := by kernel_rfl
theorem fld_38_1 : fieldAt Tryz.prog 38 1 = true := by kernel_rfl
theorem sfld_38_1 : scalarField Tryz.prog 38 1 = true := by kernel_rfl
theorem fld_38_2 : fieldAt Tryz.prog 38 2 = true := by kernel_rfl
theorem sfld_38_2 : scalarField Tryz.prog 38 2 = true := by kernel_rfl
theorem fld_38_3 : fieldAt Tryz.prog 38 3 = true := by kernel_rfl
theorem sfld_38_3 : scalarField Tryz.prog 38 3 = true := by kernel_rfl
theorem fld_38_4 : fieldAt Tryz.prog 38 4 = true := by kernel_rfl
theorem sfld_38_4 : scalarField Tryz.prog 38 4 = true := by kernel_rfl
theorem fld_38_5 : fieldAt Tryz.prog 38 5 = true := by kernel_rfl
theorem sfld_38_5 : scalarField Tryz.prog 38 5 = true := by kernel_rfl
theorem fld_38_6 : fieldAt Tryz.prog 38 6 = true := by kernel_rfl
theorem sfld_38_6 : scalarField Tryz.prog 38 6 = true := by kernel_rfl
theorem zero_38 : zeroV Tryz.prog 38 = some (.agg [.str [], .int .i64 0, .int .i64 0, .int .i64 0, .nils 4, .nils 2, .int .i64 0]) := by kernel_rfl
theorem cells_40 : Tryz.prog.cellsOf 40 = 1 := by kernel_rfl
theorem bytes_40 : Tryz.prog.bytesOf 40 = 24 := by kernel_rfl
theorem scal_40 : isScalarT Tryz.prog 40 = true := by kernel_rfl
theorem zero_40 : zeroV Tryz.prog 40 = some (.nils 3) := by kernel_rfl
theorem cells_45 : Tryz.prog.cellsOf 45 = 4 := by kernel_rfl
theorem bytes_45 : Tryz.prog.bytesOf 45 = 40 := by kernel_rfl
theorem str_45 : isStruct Tryz.prog 45 = true := by kernel_rfl
theorem ff_45 : fieldsFlat Tryz.prog 45 = true := by kernel_rfl
theorem fld_45_0 : fieldAt Tryz.prog 45 0 = true := by kernel_rfl
theorem sfld_45_0 : scalarField Tryz.prog 45 0 = true := by kernel_rfl
theorem fld_45_1 : fieldAt Tryz.prog 45 1 = true := by kernel_rfl
theorem sfld_45_1 : scalarField Tryz.prog 45 1 = true := by kernel_rfl
theorem fld_45_2 : fieldAt Tryz.prog 45 2 = true := by kernel_rfl
theorem sfld_45_2 : scalarField Tryz.prog 45 2 = true := by kernel_rfl
theorem fld_45_3 : fieldAt Tryz.prog 45 3 = true := by kernel_rfl
theorem sfld_45_3 : scalarField Tryz.prog 45 3 = true := by kernel_rfl
theorem zero_45 : zeroV Tryz.prog 45 = some (.agg [.int .i64 0, .int .i64 0, .int .i64 0, .str []]) := by kernel_rfl
theorem cells_47 : Tryz.prog.cellsOf 47 = 3 := by kernel_rfl
theorem bytes_47 : Tryz.prog.bytesOf 47 = 32 := by kernel_rfl
theorem str_47 : isStruct Tryz.prog 47 = true := by kernel_rfl
theorem ff_47 : fieldsFlat Tryz.prog 47 = true := by kernel_rfl
theorem fld_47_0 : fieldAt Tryz.prog 47 0 = true := by kernel_rfl
theorem sfld_47_0 : scalarField Tryz.prog 47 0 = true := by kernel_rfl
theorem fld_47_1 : fieldAt Tryz.prog 47 1 = true := by kernel_rfl
theorem sfld_47_1 : scalarField Tryz.prog 47 1 = true := by kernel_rfl
theorem fld_47_2 : fieldAt Tryz.prog 47 2 = true := by kernel_rfl
theorem sfld_47_2 : scalarField Tryz.prog 47 2 = true := by kernel_rfl
theorem zero_47 : zeroV Tryz.prog 47 = some (.agg [.int .i64 0, .int .i64 0, .str []]) := by kernel_rfl
theorem cells_53 : Tryz.prog.cellsOf 53 = 1 := by kernel_rfl
theorem bytes_53 : Tryz.prog.bytesOf 53 = 24 := by kernel_rfl
theorem scal_53 : isScalarT Tryz.prog 53 = true := by kernel_rfl
theorem zero_53 : zeroV Tryz.prog 53 = some (.nils 3) := by kernel_rfl
theorem cells_55 : Tryz.prog.cellsOf 55 = 1 := by kernel_rfl
theorem bytes_55 : Tryz.prog.bytesOf 55 = 24 := by kernel_rfl
theorem str_55 : isStruct Tryz.prog 55 = true := by kernel_rfl
theorem ff_55 : fieldsFlat Tryz.prog 55 = true := by kernel_rfl
theorem fld_55_0 : fieldAt Tryz.prog 55 0 = true := by kernel_rfl
theorem sfld_55_0 : scalarField Tryz.prog 55 0 = true := by kernel_rfl
theorem zero_55 : zeroV Tryz.prog 55 = some (.agg [.nils 3]) := by kernel_rfl
theorem cells_56 : Tryz.prog.cellsOf 56 = 1 := by kernel_rfl
theorem bytes_56 : Tryz.prog.bytesOf 56 = 24 := by kernel_rfl
theorem scal_56 : isScalarT Tryz.prog 56 = true := by kernel_rfl
theorem zero_56 : zeroV Tryz.prog 56 = some (.nils 8) := by kernel_rfl
theorem cells_59 : Tryz.prog.cellsOf 59 = 1 := by kernel_rfl
theorem bytes_59 : Tryz.prog.bytesOf 59 = 24 := by kernel_rfl
theorem scal_59 : isScalarT Tryz.prog 59 = true := by kernel_rfl
theorem zero_59 : zeroV Tryz.prog 59 = some (.nils 4) := by kernel_rfl
theorem cells_62 : Tryz.prog.cellsOf 62 = 1 := by kernel_rfl
theorem bytes_62 : Tryz.prog.bytesOf 62 = 24 := by kernel_rfl
theorem scal_62 : isScalarT Tryz.prog 62 = true := by kernel_rfl
theorem zero_62 : zeroV Tryz.prog 62 = some (.nils 3) := by kernel_rfl
theorem cells_64 : Tryz.prog.cellsOf 64 = 1 := by kernel_rfl
theorem bytes_64 : Tryz.prog.bytesOf 64 = 24 := by kernel_rfl
theorem str_64 : isStruct Tryz.prog 64 = true := by kernel_rfl
theorem ff_64 : fieldsFlat Tryz.prog 64 = true := by kernel_rfl
theorem fld_64_0 : fieldAt Tryz.prog 64 0 = true := by kernel_rfl
theorem sfld_64_0 : scalarField Tryz.prog 64 0 = true := by kernel_rfl
theorem zero_64 : zeroV Tryz.prog 64 = some (.agg [.nils 3]) := by kernel_rfl
theorem cells_66 : Tryz.prog.cellsOf 66 = 1 := by kernel_rfl
theorem bytes_66 : Tryz.prog.bytesOf 66 = 24 := by kernel_rfl
theorem scal_66 : isScalarT Tryz.prog 66 = true := by kernel_rfl
theorem zero_66 : zeroV Tryz.prog 66 = some (.nils 8) := by kernel_rfl
theorem cells_83 : Tryz.prog.cellsOf 83 = 3 := by kernel_rfl
theorem bytes_83 : Tryz.prog.bytesOf 83 = 32 := by kernel_rfl
theorem str_83 : isStruct Tryz.prog 83 = true := by kernel_rfl
theorem ff_83 : fieldsFlat Tryz.prog 83 = true := by kernel_rfl
theorem fld_83_0 : fieldAt Tryz.prog 83 0 = true := by kernel_rfl
theorem sfld_83_0 : scalarField Tryz.prog 83 0 = true := by kernel_rfl
theorem fld_83_1 : fieldAt Tryz.prog 83 1 = true := by kernel_rfl
theorem sfld_83_1 : scalarField Tryz.prog 83 1 = true := by kernel_rfl
theorem fld_83_2 : fieldAt Tryz.prog 83 2 = true := by kernel_rfl
theorem sfld_83_2 : scalarField Tryz.prog 83 2 = true := by kernel_rfl
theorem zero_83 : zeroV Tryz.prog 83 = some (.agg [.str [], .int .i64 0, .bool false]) := by kernel_rfl
theorem cells_91 : Tryz.prog.cellsOf 91 = 3 := by kernel_rfl
theorem bytes_91 : Tryz.prog.bytesOf 91 = 32 := by kernel_rfl
theorem str_91 : isStruct Tryz.prog 91 = true := by kernel_rfl
theorem ff_91 : fieldsFlat Tryz.prog 91 = true := by kernel_rfl
theorem fld_91_0 : fieldAt Tryz.prog 91 0 = true := by kernel_rfl
theorem sfld_91_0 : scalarField Tryz.prog 91 0 = true := by kernel_rfl
theorem fld_91_1 : fieldAt Tryz.prog 91 1 = true := by kernel_rfl
theorem sfld_91_1 : scalarField Tryz.prog 91 1 = true := by kernel_rfl
theorem fld_91_2 : fieldAt Tryz.prog 91 2 = true := by kernel_rfl
theorem sfld_91_2 : scalarField Tryz.prog 91 2 = true := by kernel_rfl
theorem zero_91 : zeroV Tryz.prog 91 = some (.agg [.str [], .int .i64 0, .bool false]) := by kernel_rfl
theorem cells_101 : Tryz.prog.cellsOf 101 = 1 := by kernel_rfl
theorem bytes_101 : Tryz.prog.bytesOf 101 = 24 := by kernel_rfl
theorem scal_101 : isScalarT Tryz.prog 101 = true := by kernel_rfl
theorem zero_101 : zeroV Tryz.prog 101 = some (.nils 1) := by kernel_rfl
theorem cells_104 : Tryz.prog.cellsOf 104 = 1 := by kernel_rfl
theorem bytes_104 : Tryz.prog.bytesOf 104 = 24 := by kernel_rfl
theorem scal_104 : isScalarT Tryz.prog 104 = true := by kernel_rfl
theorem zero_104 : zeroV Tryz.prog 104 = some (.nils 1) := by kernel_rfl
theorem cells_110 : Tryz.prog.cellsOf 110 = 2 := by kernel_rfl
theorem bytes_110 : Tryz.prog.bytesOf 110 = 16 := by kernel_rfl
theorem str_110 : isStruct Tryz.prog 110 = true := by kernel_rfl
theorem ff_110 : fieldsFlat Tryz.prog 110 = true := by kernel_rfl
theorem seq_110 : structEq Tryz.prog 110 = some [0, 0] := by kernel_rfl
theorem fld_110_0 : fieldAt Tryz.prog 110 0 = true := by kernel_rfl
theorem sfld_110_0 : scalarField Tryz.prog 110 0 = true := by kernel_rfl
theorem fld_110_1 : fieldAt Tryz.prog 110 1 = true := by kernel_rfl
theorem sfld_110_1 : scalarField Tryz.prog 110 1 = true := by kernel_rfl
theorem zero_110 : zeroV Tryz.prog 110 = some (.agg [.int .i64 0, .int .i64 0]) := by kernel_rfl
theorem cells_115 : Tryz.prog.cellsOf 115 = 1 := by kernel_rfl
theorem bytes_115 : Tryz.prog.bytesOf 115 = 24 := by kernel_rfl
theorem scal_115 : isScalarT Tryz.prog 115 = true := by kernel_rfl
theorem zero_115 : zeroV Tryz.prog 115 = some (.nils 2) := by kernel_rfl
theorem cells_117 : Tryz.prog.cellsOf 117 = 8 := by kernel_rfl
theorem bytes_117 : Tryz.prog.bytesOf 117 = 104 := by kernel_rfl
theorem str_117 : isStruct Tryz.prog 117 = true := by kernel_rfl
theorem ff_117 : fieldsFlat Tryz.prog 117 = true := by kernel_rfl
theorem fld_117_0 : fieldAt Tryz.prog 117 0 = true := by kernel_rfl
theorem sfld_117_0 : scalarField Tryz.prog 117 0 = true := by kernel_rfl
theorem fld_117_1 : fieldAt Tryz.prog 117 1 = true := by kernel_rfl
theorem sfld_117_1 : scalarField Tryz.prog 117 1 = true := by kernel_rfl
theorem fld_117_2 : fieldAt Tryz.prog 117 2 = true := by kernel_rfl
theorem sfld_117_2 : scalarField Tryz.prog 117 2 = true := by kernel_rfl
theorem fld_117_3 : fieldAt Tryz.prog 117 3 = true := by kernel_rfl
theorem sfld_117_3 : scalarField Tryz.prog 117 3 = true := by kernel_rfl
theorem fld_117_4 : fieldAt Tryz.prog 117 4 = true := by kernel_rfl
theorem sfld_117_4 : scalarField Tryz.prog 117 4 = true := by kernel_rfl
theorem fld_117_5 : fieldAt Tryz.prog 117 5 = true := by kernel_rfl
theorem sfld_117_5 : scalarField Tryz.prog 117 5 = true := by kernel_rfl
theorem fld_117_6 : fieldAt Tryz.prog 117 6 = true := by kernel_rfl
theorem sfld_117_6 : scalarField Tryz.prog 117 6 = true := by kernel_rfl
theorem fld_117_7 : fieldAt Tryz.prog 117 7 = true := by kernel_rfl
theorem sfld_117_7 : scalarField Tryz.prog 117 7 = true := by kernel_rfl
theorem zero_117 : zeroV Tryz.prog 117 = some (.agg [.int .i64 0, .str [], .str [], .nils 2, .int .i64 0, .int .i64 0, .int .i64 0, .str []]) := by kernel_rfl
theorem cells_122 : Tryz.prog.cellsOf 122 = 4 := by kernel_rfl
theorem bytes_122 : Tryz.prog.bytesOf 122 = 56 := by kernel_rfl
theorem str_122 : isStruct Tryz.prog 122 = true := by kernel_rfl
theorem ff_122 : fieldsFlat Tryz.prog 122 = true := by kernel_rfl
theorem fld_122_0 : fieldAt Tryz.prog 122 0 = true := by kernel_rfl
theorem sfld_122_0 : scalarField Tryz.prog 122 0 = true := by kernel_rfl
theorem fld_122_1 : fieldAt Tryz.prog 122 1 = true := by kernel_rfl
theorem sfld_122_1 : scalarField Tryz.prog 122 1 = true := by kernel_rfl
theorem fld_122_2 : fieldAt Tryz.prog 122 2 = true := by kernel_rfl
theorem sfld_122_2 : scalarField Tryz.prog 122 2 = true := by kernel_rfl
theorem fld_122_3 : fieldAt Tryz.prog 122 3 = true := by kernel_rfl
theorem sfld_122_3 : scalarField Tryz.prog 122 3 = true := by kernel_rfl
theorem zero_122 : zeroV Tryz.prog 122 = some (.agg [.int .i64 0, .str [], .str [], .str []]) := by kernel_rfl
theorem cells_131 : Tryz.prog.cellsOf 131 = 3 := by kernel_rfl
theorem bytes_131 : Tryz.prog.bytesOf 131 = 40 := by kernel_rfl
theorem str_131 : isStruct Tryz.prog 131 = true := by kernel_rfl
theorem ff_131 : fieldsFlat Tryz.prog 131 = true := by kernel_rfl
theorem fld_131_0 : fieldAt Tryz.prog 131 0 = true := by kernel_rfl
theorem sfld_131_0 : scalarField Tryz.prog 131 0 = true := by kernel_rfl
theorem fld_131_1 : fieldAt Tryz.prog 131 1 = true := by kernel_rfl
theorem sfld_131_1 : scalarField Tryz.prog 131 1 = true := by kernel_rfl
theorem fld_131_2 : fieldAt Tryz.prog 131 2 = true := by kernel_rfl
theorem sfld_131_2 : scalarField Tryz.prog 131 2 = true := by kernel_rfl
theorem zero_131 : zeroV Tryz.prog 131 = some (.agg [.nils 1, .int .i64 0, .int .i64 0]) := by kernel_rfl
theorem cells_144 : Tryz.prog.cellsOf 144 = 1 := by kernel_rfl
theorem bytes_144 : Tryz.prog.bytesOf 144 = 24 := by kernel_rfl
theorem scal_144 : isScalarT Tryz.prog 144 = true := by kernel_rfl
theorem zero_144 : zeroV Tryz.prog 144 = some (.nils 1) := by kernel_rfl
theorem cells_165 : Tryz.prog.cellsOf 165 = 2 := by kernel_rfl
theorem bytes_165 : Tryz.prog.bytesOf 165 = 16 := by kernel_rfl
theorem str_165 : isStruct Tryz.prog 165 = true := by kernel_rfl
theorem ff_165 : fieldsFlat Tryz.prog 165 = true := by kernel_rfl
theorem fld_165_0 : fieldAt Tryz.prog 165 0 = true := by kernel_rfl
theorem sfld_165_0 : scalarField Tryz.prog 165 0 = true := by kernel_rfl
theorem fld_165_1 : fieldAt Tryz.prog 165 1 = true := by kernel_rfl
theorem sfld_165_1 : scalarField Tryz.prog 165 1 = true := by kernel_rfl
theorem zero_165 : zeroV Tryz.prog 165 = some (.agg [.int .i64 0, .int .i64 0]) := by kernel_rfl
theorem cells_171 : Tryz.prog.cellsOf 171 = 3 := by kernel_rfl
theorem bytes_171 : Tryz.prog.bytesOf 171 = 40 := by kernel_rfl
theorem str_171 : isStruct Tryz.prog 171 = true := by kernel_rfl
theorem ff_171 : fieldsFlat Tryz.prog 171 = true := by kernel_rfl
theorem fld_171_0 : fieldAt Tryz.prog 171 0 = true := by kernel_rfl
theorem sfld_171_0 : scalarField Tryz.prog 171 0 = true := by kernel_rfl
theorem fld_171_1 : fieldAt Tryz.prog 171 1 = true := by kernel_rfl
theorem sfld_171_1 : scalarField Tryz.prog 171 1 = true := by kernel_rfl
theorem fld_171_2 : fieldAt Tryz.prog 171 2 = true := by kernel_rfl
theorem sfld_171_2 : scalarField Tryz.prog 171 2 = true := by kernel_rfl
theorem zero_171 : zeroV Tryz.prog 171 = some (.agg [.str [], .str [], .int .i64 0]) := by kernel_rfl
theorem cells_173 : Tryz.prog.cellsOf 173 = 3 := by kernel_rfl
theorem bytes_173 : Tryz.prog.bytesOf 173 = 40 := by kernel_rfl
theorem str_173 : isStruct Tryz.prog 173 = true := by kernel_rfl
theorem ff_173 : fieldsFlat Tryz.prog 173 = true := by kernel_rfl
theorem fld_173_0 : fieldAt Tryz.prog 173 0 = true := by kernel_rfl
theorem sfld_173_0 : scalarField Tryz.prog 173 0 = true := by kernel_rfl
theorem fld_173_1 : fieldAt Tryz.prog 173 1 = true := by kernel_rfl
theorem sfld_173_1 : scalarField Tryz.prog 173 1 = true := by kernel_rfl
theorem fld_173_2 : fieldAt Tryz.prog 173 2 = true := by kernel_rfl
theorem sfld_173_2 : scalarField Tryz.prog 173 2 = true := by kernel_rfl
theorem zero_173 : zeroV Tryz.prog 173 = some (.agg [.str [], .str [], .int .i64 0]) := by kernel_rfl
theorem cells_175 : Tryz.prog.cellsOf 175 = 1 := by kernel_rfl
theorem bytes_175 : Tryz.prog.bytesOf 175 = 4 := by kernel_rfl
theorem scal_175 : isScalarT Tryz.prog 175 = true := by kernel_rfl
theorem zero_175 : zeroV Tryz.prog 175 = some (.int .u32 0) := by kernel_rfl
theorem cells_184 : Tryz.prog.cellsOf 184 = 2 := by kernel_rfl
theorem bytes_184 : Tryz.prog.bytesOf 184 = 32 := by kernel_rfl
theorem str_184 : isStruct Tryz.prog 184 = true := by kernel_rfl
theorem ff_184 : fieldsFlat Tryz.prog 184 = true := by kernel_rfl
theorem fld_184_0 : fieldAt Tryz.prog 184 0 = true := by kernel_rfl
theorem sfld_184_0 : scalarField Tryz.prog 184 0 = true := by kernel_rfl
theorem fld_184_1 : fieldAt Tryz.prog 184 1 = true := by kernel_rfl
theorem sfld_184_1 : scalarField Tryz.prog 184 1 = true := by kernel_rfl
theorem cells_191 : Tryz.prog.cellsOf 191 = 1 := by kernel_rfl
theorem bytes_191 : Tryz.prog.bytesOf 191 = 8 := by kernel_rfl
theorem scal_191 : isScalarT Tryz.prog 191 = true := by kernel_rfl
theorem zero_191 : zeroV Tryz.prog 191 = some (.int .u64 0) := by kernel_rfl
theorem cells_204 : Tryz.prog.cellsOf 204 = 2 := by kernel_rfl
theorem bytes_204 : Tryz.prog.bytesOf 204 = 16 := by kernel_rfl
theorem str_204 : isStruct Tryz.prog 204 = true := by kernel_rfl
theorem ff_204 : fieldsFlat Tryz.prog 204 = true := by kernel_rfl
theorem fld_204_0 : fieldAt Tryz.prog 204 0 = true := by kernel_rfl
theorem sfld_204_0 : scalarField Tryz.prog 204 0 = true := by kernel_rfl
theorem fld_204_1 : fieldAt Tryz.prog 204 1 = true := by kernel_rfl
theorem sfld_204_1 : scalarField Tryz.prog 204 1 = true := by kernel_rfl
theorem zero_204 : zeroV Tryz.prog 204 = some (.agg [.int .i64 0, .int .i64 0]) := by kernel_rfl
theorem cells_233 : Tryz.prog.cellsOf 233 = 1 := by kernel_rfl
theorem bytes_233 : Tryz.prog.bytesOf 233 = 8 := by kernel_rfl
theorem scal_233 : isScalarT Tryz.prog 233 = true := by kernel_rfl
theorem zero_233 : zeroV Tryz.prog 233 = some (.int .u64 0) := by kernel_rfl
theorem cells_245 : Tryz.prog.cellsOf 245 = 2 := by kernel_rfl
theorem bytes_245 : Tryz.prog.bytesOf 245 = 2 := by kernel_rfl
theorem str_245 : isStruct Tryz.prog 245 = true := by kernel_rfl
theorem ff_245 : fieldsFlat Tryz.prog 245 = true := by kernel_rfl
theorem fld_245_0 : fieldAt Tryz.prog 245 0 = true := by kernel_rfl
theorem sfld_245_0 : scalarField Tryz.prog 245 0 = true := by kernel_rfl
theorem fld_245_1 : fieldAt Tryz.prog 245 1 = true := by kernel_rfl
theorem sfld_245_1 : scalarField Tryz.prog 245 1 = true := by kernel_rfl
theorem zero_245 : zeroV Tryz.prog 245 = some (.agg [.int .u8 0, .int .u8 0]) := by kernel_rfl
theorem cells_257 : Tryz.prog.cellsOf 257 = 1 := by kernel_rfl
theorem bytes_257 : Tryz.prog.bytesOf 257 = 1 := by kernel_rfl
theorem scal_257 : isScalarT Tryz.prog 257 = true := by kernel_rfl
theorem zero_257 : zeroV Tryz.prog 257 = some (.int .u8 0) := by kernel_rfl
attribute [go_sem] Tryz.underlying2 Tryz.underlying3 Tryz.underlying4 Tryz.underlying5 Tryz.underlying6 Tryz.underlying8 Tryz.underlying9 Tryz.underlying10 Tryz.underlying11 Tryz.underlying12 Tryz.underlying14 Tryz.underlying19 Tryz.underlying21 Tryz.underlying22 Tryz.underlying24 Tryz.underlying26 Tryz.underlying35 Tryz.underlying36 Tryz.underlying38 Tryz.underlying40 Tryz.underlying45 Tryz.underlying47 Tryz.underlying53 Tryz.underlying55 Tryz.underlying56 Tryz.underlying59 Tryz.underlying62 Tryz.underlying64 Tryz.underlying66 Tryz.underlying83 Tryz.underlying91 Tryz.underlying101 Tryz.underlying104 Tryz.underlying110 Tryz.underlying115 Tryz.underlying117 Tryz.underlying122 Tryz.underlying131 Tryz.underlying144 Tryz.underlying165 Tryz.underlying171 Tryz.underlying173 Tryz.underlying175 Tryz.underlying184 Tryz.underlying191 Tryz.underlying204 Tryz.underlying233 Tryz.underlying245 Tryz.underlying257 cells_2 bytes_2 scal_2 zero_2 cells_3 bytes_3 scal_3 zero_3 cells_4 bytes_4 scal_4 zero_4 cells_5 bytes_5 scal_5 zero_5 cells_6 bytes_6 scal_6 zero_6 cells_8 bytes_8 str_8 ff_8 fld_8_0 fld_8_1 fld_8_2 fld_8_3 sfld_8_0 sfld_8_1 sfld_8_2 sfld_8_3 zero_8 cells_9 bytes_9 scal_9 zero_9 cells_10 bytes_10 scal_10 zero_10 cells_11 bytes_11 scal_11 zero_11 cells_12 bytes_12 scal_12 zero_12 cells_14 bytes_14 str_14 ff_14 fld_14_0 fld_14_1 sfld_14_0 sfld_14_1 zero_14 cells_19 bytes_19 str_19 ff_19 fld_19_0 sfld_19_0 cells_21 bytes_21 scal_21 zero_21 cells_22 bytes_22 scal_22 zero_22 cells_24 bytes_24 scal_24 zero_24 cells_26 bytes_26 str_26 ff_26 fld_26_0 fld_26_1 fld_26_2 fld_26_3 fld_26_4 fld_26_5 fld_26_6 fld_26_7 sfld_26_0 sfld_26_1 sfld_26_2 sfld_26_3 sfld_26_4 sfld_26_5 sfld_26_6 sfld_26_7 zero_26 cells_35 bytes_35 scal_35 zero_35 cells_36 bytes_36 scal_36 zero_36 cells_38 bytes_38 str_38 ff_38 fld_38_0 fld_38_1 fld_38_2 fld_38_3 fld_38_4 fld_38_5 fld_38_6 sfld_38_0 sfld_38_1 sfld_38_2 sfld_38_3 sfld_38_4 sfld_38_5 sfld_38_6 zero_38 cells_40 bytes_40 scal_40 zero_40 cells_45 bytes_45 str_45 ff_45 fld_45_0 fld_45_1 fld_45_2 fld_45_3 sfld_45_0 sfld_45_1 sfld_45_2 sfld_45_3 zero_45 cells_47 bytes_47 str_47 ff_47 fld_47_0 fld_47_1 fld_47_2 sfld_47_0 sfld_47_1 sfld_47_2 zero_47 cells_53 bytes_53 scal_53 zero_53 cells_55 bytes_55 str_55 ff_55 fld_55_0 sfld_55_0 zero_55 cells_56 bytes_56 scal_56 zero_56 cells_59 bytes_59 scal_59 zero_59 cells_62 bytes_62 scal_62 zero_62 cells_64 bytes_64 str_64 ff_64 fld_64_0 sfld_64_0 zero_64 cells_66 bytes_66 scal_66 zero_66 cells_83 bytes_83 str_83 ff_83 fld_83_0 fld_83_1 fld_83_2 sfld_83_0 sfld_83_1 sfld_83_2 zero_83 cells_91 bytes_91 str_91 ff_91 fld_91_0 fld_91_1 fld_91_2 sfld_91_0 sfld_91_1 sfld_91_2 zero_91 cells_101 bytes_101 scal_101 zero_101 cells_104 bytes_104 scal_104 zero_104 cells_110 bytes_110 str_110 ff_110 seq_110 fld_110_0 fld_110_1 sfld_110_0 sfld_110_1 zero_110 cells_115 bytes_115 scal_115 zero_115 cells_117 bytes_117 str_117 ff_117 fld_117_0 fld_117_1 fld_117_2 fld_117_3 fld_117_4 fld_117_5 fld_117_6 fld_117_7 sfld_117_0 sfld_117_1 sfld_117_2 sfld_117_3 sfld_117_4 sfld_117_5 sfld_117_6 sfld_117_7 zero_117 cells_122 bytes_122 str_122 ff_122 fld_122_0 fld_122_1 fld_122_2 fld_122_3 sfld_122_0 sfld_122_1 sfld_122_2 sfld_122_3 zero_122 cells_131 bytes_131 str_131 ff_131 fld_131_0 fld_131_1 fld_131_2 sfld_131_0 sfld_131_1 sfld_131_2 zero_131 cells_144 bytes_144 scal_144 zero_144 cells_165 bytes_165 str_165 ff_165 fld_165_0 fld_165_1 sfld_165_0 sfld_165_1 zero_165 cells_171 bytes_171 str_171 ff_171 fld_171_0 fld_171_1 fld_171_2 sfld_171_0 sfld_171_1 sfld_171_2 zero_171 cells_173 bytes_173 str_173 ff_173 fld_173_0 fld_173_1 fld_173_2 sfld_173_0 sfld_173_1 sfld_173_2 zero_173 cells_175 bytes_175 scal_175 zero_175 cells_184 bytes_184 str_184 ff_184 fld_184_0 fld_184_1 sfld_184_0 sfld_184_1 cells_191 bytes_191 scal_191 zero_191 cells_204 bytes_204 str_204 ff_204 fld_204_0 fld_204_1 sfld_204_0 sfld_204_1 zero_204 cells_233 bytes_233 scal_233 zero_233 cells_245 bytes_245 str_245 ff_245 fld_245_0 fld_245_1 sfld_245_0 sfld_245_1 zero_245 cells_257 bytes_257 scal_257 zero_257
end Go.Proofs.YtimiccneikhkgaaGreatDoor.Ty
