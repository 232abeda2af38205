/- Facts on the types of the program, each looked up in it. -/
import Derived.Test.YtdnafggminbalaaVmSet
import Derived.Test.YtdnafggminbalaaProg
import Derived.KernelRfl
namespace Go.Proofs.Ytdnafggminbalaa.Ty
open Go Go.VM
set_option maxRecDepth 100000
theorem cells_2 : Try.prog.cellsOf 2 = 1 := by kernel_rfl
theorem bytes_2 : Try.prog.bytesOf 2 = 8 := by kernel_rfl
theorem scal_2 : isScalarT Try.prog 2 = true := by kernel_rfl
theorem zero_2 : zeroV Try.prog 2 = some (.int .i64 0) := by kernel_rfl
theorem cells_3 : Try.prog.cellsOf 3 = 1 := by kernel_rfl
theorem bytes_3 : Try.prog.bytesOf 3 = 8 := by kernel_rfl
theorem scal_3 : isScalarT Try.prog 3 = true := by kernel_rfl
theorem zero_3 : zeroV Try.prog 3 = some (.int .i64 0) := by kernel_rfl
theorem cells_4 : Try.prog.cellsOf 4 = 1 := by kernel_rfl
theorem bytes_4 : Try.prog.bytesOf 4 = 1 := by kernel_rfl
theorem scal_4 : isScalarT Try.prog 4 = true := by kernel_rfl
theorem zero_4 : zeroV Try.prog 4 = some (.bool false) := by kernel_rfl
theorem cells_5 : Try.prog.cellsOf 5 = 1 := by kernel_rfl
theorem bytes_5 : Try.prog.bytesOf 5 = 1 := by kernel_rfl
theorem scal_5 : isScalarT Try.prog 5 = true := by kernel_rfl
theorem zero_5 : zeroV Try.prog 5 = some (.int .u8 0) := by kernel_rfl
theorem cells_6 : Try.prog.cellsOf 6 = 1 := by kernel_rfl
theorem bytes_6 : Try.prog.bytesOf 6 = 1 := by kernel_rfl
theorem scal_6 : isScalarT Try.prog 6 = true := by kernel_rfl
theorem zero_6 : zeroV Try.prog 6 = some (.int .u8 0) := by kernel_rfl
theorem cells_8 : Try.prog.cellsOf 8 = 4 := by kernel_rfl
theorem bytes_8 : Try.prog.bytesOf 8 = 24 := by kernel_rfl
theorem str_8 : isStruct Try.prog 8 = true := by kernel_rfl
theorem ff_8 : fieldsFlat Try.prog 8 = true := by kernel_rfl
theorem fld_8_0 : fieldAt Try.prog 8 0 = true := by kernel_rfl
theorem sfld_8_0 : scalarField Try.prog 8 0 = true := by kernel_rfl
theorem fld_8_1 : fieldAt Try.prog 8 1 = true := by kernel_rfl
theorem sfld_8_1 : scalarField Try.prog 8 1 = true := by kernel_rfl
theorem fld_8_2 : fieldAt Try.prog 8 2 = true := by kernel_rfl
theorem sfld_8_2 : scalarField Try.prog 8 2 = true := by kernel_rfl
theorem fld_8_3 : fieldAt Try.prog 8 3 = true := by kernel_rfl
theorem sfld_8_3 : scalarField Try.prog 8 3 = true := by kernel_rfl
theorem zero_8 : zeroV Try.prog 8 = some (.agg [.int .i64 0, .int .i64 0, .bool false, .int .u8 0]) := by kernel_rfl
theorem cells_9 : Try.prog.cellsOf 9 = 1 := by kernel_rfl
theorem bytes_9 : Try.prog.bytesOf 9 = 16 := by kernel_rfl
theorem scal_9 : isScalarT Try.prog 9 = true := by kernel_rfl
theorem zero_9 : zeroV Try.prog 9 = some (.str []) := by kernel_rfl
theorem cells_10 : Try.prog.cellsOf 10 = 1 := by kernel_rfl
theorem bytes_10 : Try.prog.bytesOf 10 = 16 := by kernel_rfl
theorem scal_10 : isScalarT Try.prog 10 = true := by kernel_rfl
theorem zero_10 : zeroV Try.prog 10 = some (.str []) := by kernel_rfl
theorem cells_11 : Try.prog.cellsOf 11 = 1 := by kernel_rfl
theorem bytes_11 : Try.prog.bytesOf 11 = 16 := by kernel_rfl
theorem scal_11 : isScalarT Try.prog 11 = true := by kernel_rfl
theorem zero_11 : zeroV Try.prog 11 = some (.str []) := by kernel_rfl
theorem cells_12 : Try.prog.cellsOf 12 = 1 := by kernel_rfl
theorem bytes_12 : Try.prog.bytesOf 12 = 8 := by kernel_rfl
theorem scal_12 : isScalarT Try.prog 12 = true := by kernel_rfl
theorem zero_12 : zeroV Try.prog 12 = some (.int .u64 0) := by kernel_rfl
theorem cells_14 : Try.prog.cellsOf 14 = 2 := by kernel_rfl
theorem bytes_14 : Try.prog.bytesOf 14 = 24 := by kernel_rfl
theorem str_14 : isStruct Try.prog 14 = true := by kernel_rfl
theorem ff_14 : fieldsFlat Try.prog 14 = true := by kernel_rfl
theorem fld_14_0 : fieldAt Try.prog 14 0 = true := by kernel_rfl
theorem sfld_14_0 : scalarField Try.prog 14 0 = true := by kernel_rfl
theorem fld_14_1 : fieldAt Try.prog 14 1 = true := by kernel_rfl
theorem sfld_14_1 : scalarField Try.prog 14 1 = true := by kernel_rfl
theorem zero_14 : zeroV Try.prog 14 = some (.agg [.str [], .int .u64 0]) := by kernel_rfl
theorem cells_19 : Try.prog.cellsOf 19 = 1 := by kernel_rfl
theorem bytes_19 : Try.prog.bytesOf 19 = 8 := by kernel_rfl
theorem str_19 : isStruct Try.prog 19 = true := by kernel_rfl
theorem ff_19 : fieldsFlat Try.prog 19 = true := by kernel_rfl
theorem fld_19_0 : fieldAt Try.prog 19 0 = true := by kernel_rfl
theorem sfld_19_0 : scalarField Try.prog 19 0 = true := by kernel_rfl
theorem cells_22 : Try.prog.cellsOf 22 = 1 := by kernel_rfl
theorem bytes_22 : Try.prog.bytesOf 22 = 24 := by kernel_rfl
theorem scal_22 : isScalarT Try.prog 22 = true := by kernel_rfl
theorem zero_22 : zeroV Try.prog 22 = some (.nils 7) := by kernel_rfl
theorem cells_24 : Try.prog.cellsOf 24 = 2 := by kernel_rfl
theorem bytes_24 : Try.prog.bytesOf 24 = 32 := by kernel_rfl
theorem str_24 : isStruct Try.prog 24 = true := by kernel_rfl
theorem ff_24 : fieldsFlat Try.prog 24 = true := by kernel_rfl
theorem fld_24_0 : fieldAt Try.prog 24 0 = true := by kernel_rfl
theorem sfld_24_0 : scalarField Try.prog 24 0 = true := by kernel_rfl
theorem fld_24_1 : fieldAt Try.prog 24 1 = true := by kernel_rfl
theorem sfld_24_1 : scalarField Try.prog 24 1 = true := by kernel_rfl
theorem zero_24 : zeroV Try.prog 24 = some (.agg [.nils 7, .int .i64 0]) := by kernel_rfl
theorem cells_26 : Try.prog.cellsOf 26 = 1 := by kernel_rfl
theorem bytes_26 : Try.prog.bytesOf 26 = 24 := by kernel_rfl
theorem scal_26 : isScalarT Try.prog 26 = true := by kernel_rfl
theorem zero_26 : zeroV Try.prog 26 = some (.nils 7) := by kernel_rfl
theorem cells_28 : Try.prog.cellsOf 28 = 2 := by kernel_rfl
theorem bytes_28 : Try.prog.bytesOf 28 = 32 := by kernel_rfl
theorem str_28 : isStruct Try.prog 28 = true := by kernel_rfl
theorem ff_28 : fieldsFlat Try.prog 28 = true := by kernel_rfl
theorem fld_28_0 : fieldAt Try.prog 28 0 = true := by kernel_rfl
theorem sfld_28_0 : scalarField Try.prog 28 0 = true := by kernel_rfl
theorem fld_28_1 : fieldAt Try.prog 28 1 = true := by kernel_rfl
theorem sfld_28_1 : scalarField Try.prog 28 1 = true := by kernel_rfl
theorem zero_28 : zeroV Try.prog 28 = some (.agg [.nils 7, .int .i64 0]) := by kernel_rfl
theorem cells_38 : Try.prog.cellsOf 38 = 1 := by kernel_rfl
theorem bytes_38 : Try.prog.bytesOf 38 = 24 := by kernel_rfl
theorem scal_38 : isScalarT Try.prog 38 = true := by kernel_rfl
theorem zero_38 : zeroV Try.prog 38 = some (.nils 4) := by kernel_rfl
theorem cells_39 : Try.prog.cellsOf 39 = 1 := by kernel_rfl
theorem bytes_39 : Try.prog.bytesOf 39 = 24 := by kernel_rfl
theorem scal_39 : isScalarT Try.prog 39 = true := by kernel_rfl
theorem zero_39 : zeroV Try.prog 39 = some (.nils 2) := by kernel_rfl
theorem cells_41 : Try.prog.cellsOf 41 = 7 := by kernel_rfl
theorem bytes_41 : Try.prog.bytesOf 41 = 96 := by kernel_rfl
theorem str_41 : isStruct Try.prog 41 = true := by kernel_rfl
theorem ff_41 : fieldsFlat Try.prog 41 = true := by kernel_rfl
theorem fld_41_0 : fieldAt Try.prog 41 0 = true := by kernel_rfl
theorem sfld_41_0 : scalarField Try.prog 41 0 = true := by kernel_rfl
theorem fld_41_1 : fieldAt Try.prog 41 1 = true := by kernel_rfl
theorem sfld_41_1 : scalarField Try.prog 41 1 = true := by kernel_rfl
theorem fld_41_2 : fieldAt Try.prog 41 2 = true := by kernel_rfl
theorem sfld_41_2 : scalarField Try.prog 41 2 = true := by kernel_rfl
theorem fld_41_3 : fieldAt Try.prog 41 3 = true := by kernel_rfl
theorem sfld_41_3 : scalarField Try.prog 41 3 = true := by kernel_rfl
theorem fld_41_4 : fieldAt Try.prog 41 4 = true := by kernel_rfl
theorem sfld_41_4 : scalarField Try.prog 41 4 = true := by kernel_rfl
theorem fld_41_5 : fieldAt Try.prog 41 5 = true := by kernel_rfl
theorem sfld_41_5 : scalarField Try.prog 41 5 = true := by kernel_rfl
theorem fld_41_6 : fieldAt Try.prog 41 6 = true := by kernel_rfl
theorem sfld_41_6 : scalarField Try.prog 41 6 = true := by kernel_rfl
theorem zero_41 : zeroV Try.prog 41 = some (.agg [.str [], .int .i64 0, .int .i64 0, .int .i64 0, .nils 4, .nils 2, .int .i64 0]) := by kernel_rfl
theorem cells_53 : Try.prog.cellsOf 53 = 1 := by kernel_rfl
theorem bytes_53 : Try.prog.bytesOf 53 = 24 := by kernel_rfl
theorem scal_53 : isScalarT Try.prog 53 = true := by kernel_rfl
theorem zero_53 : zeroV Try.prog 53 = some (.nils 4) := by kernel_rfl
theorem cells_54 : Try.prog.cellsOf 54 = 1 := by kernel_rfl
theorem bytes_54 : Try.prog.bytesOf 54 = 24 := by kernel_rfl
theorem scal_54 : isScalarT Try.prog 54 = true := by kernel_rfl
theorem zero_54 : zeroV Try.prog 54 = some (.nils 2) := by kernel_rfl
theorem cells_56 : Try.prog.cellsOf 56 = 7 := by kernel_rfl
theorem bytes_56 : Try.prog.bytesOf 56 = 96 := by kernel_rfl
theorem str_56 : isStruct Try.prog 56 = true := by kernel_rfl
theorem ff_56 : fieldsFlat Try.prog 56 = true := by kernel_rfl
theorem fld_56_0 : fieldAt Try.prog 56 0 = true := by kernel_rfl
theorem sfld_56_0 : scalarField Try.prog 56 0 = true := by kernel_rfl
theorem fld_56_1 : fieldAt Try.prog 56 1 = true := by kernel_rfl
theorem sfld_56_1 : scalarField Try.prog 56 1 = true := by kernel_rfl
theorem fld_56_2 : fieldAt Try.prog 56 2 = true := by kernel_rfl
theorem sfld_56_2 : scalarField Try.prog 56 2 = true := by kernel_rfl
theorem fld_56_3 : fieldAt Try.prog 56 3 = true := by kernel_rfl
theorem sfld_56_3 : scalarField Try.prog 56 3 = true := by kernel_rfl
theorem fld_56_4 : fieldAt Try.prog 56 4 = true := by kernel_rfl
theorem sfld_56_4 : scalarField Try.prog 56 4 = true := by kernel_rfl
theorem fld_56_5 : fieldAt Try.prog 56 5 = true := by kernel_rfl
theorem sfld_56_5 : scalarField Try.prog 56 5 = true := by kernel_rfl
theorem fld_56_6 : fieldAt Try.prog 56 6 = true := by kernel_rfl
theorem sfld_56_6 : scalarField Try.prog 56 6 = true := by kernel_rfl
theorem zero_56 : zeroV Try.prog 56 = some (.agg [.str [], .int .i64 0, .int .i64 0, .int .i64 0, .nils 4, .nils 2, .int .i64 0]) := by kernel_rfl
theorem cells_70 : Try.prog.cellsOf 70 = 4 := by kernel_rfl
theorem bytes_70 : Try.prog.bytesOf 70 = 40 := by kernel_rfl
theorem str_70 : isStruct Try.prog 70 = true := by kernel_rfl
theorem ff_70 : fieldsFlat Try.prog 70 = true := by kernel_rfl
theorem fld_70_0 : fieldAt Try.prog 70 0 = true := by kernel_rfl
theorem sfld_70_0 : scalarField Try.prog 70 0 = true := by kernel_rfl
theorem fld_70_1 : fieldAt Try.prog 70 1 = true := by kernel_rfl
theorem sfld_70_1 : scalarField Try.prog 70 1 = true := by kernel_rfl
theorem fld_70_2 : fieldAt Try.prog 70 2 = true := by kernel_rfl
theorem sfld_70_2 : scalarField Try.prog 70 2 = true := by kernel_rfl
theorem fld_70_3 : fieldAt Try.prog 70 3 = true := by kernel_rfl
theorem sfld_70_3 : scalarField Try.prog 70 3 = true := by kernel_rfl
theorem zero_70 : zeroV Try.prog 70 = some (.agg [.int .i64 0, .int .i64 0, .int .i64 0, .str []]) := by kernel_rfl
theorem cells_73 : Try.prog.cellsOf 73 = 2 := by kernel_rfl
theorem bytes_73 : Try.prog.bytesOf 73 = 16 := by kernel_rfl
theorem str_73 : isStruct Try.prog 73 = true := by kernel_rfl
theorem ff_73 : fieldsFlat Try.prog 73 = true := by kernel_rfl
theorem fld_73_0 : fieldAt Try.prog 73 0 = true := by kernel_rfl
theorem sfld_73_0 : scalarField Try.prog 73 0 = true := by kernel_rfl
theorem fld_73_1 : fieldAt Try.prog 73 1 = true := by kernel_rfl
theorem sfld_73_1 : scalarField Try.prog 73 1 = true := by kernel_rfl
theorem zero_73 : zeroV Try.prog 73 = some (.agg [.int .i64 0, .int .i64 0]) := by kernel_rfl
theorem cells_79 : Try.prog.cellsOf 79 = 1 := by kernel_rfl
theorem bytes_79 : Try.prog.bytesOf 79 = 24 := by kernel_rfl
theorem scal_79 : isScalarT Try.prog 79 = true := by kernel_rfl
theorem zero_79 : zeroV Try.prog 79 = some (.nils 1) := by kernel_rfl
theorem cells_81 : Try.prog.cellsOf 81 = 4 := by kernel_rfl
theorem bytes_81 : Try.prog.bytesOf 81 = 40 := by kernel_rfl
theorem str_81 : isStruct Try.prog 81 = true := by kernel_rfl
theorem ff_81 : fieldsFlat Try.prog 81 = true := by kernel_rfl
theorem fld_81_0 : fieldAt Try.prog 81 0 = true := by kernel_rfl
theorem sfld_81_0 : scalarField Try.prog 81 0 = true := by kernel_rfl
theorem fld_81_1 : fieldAt Try.prog 81 1 = true := by kernel_rfl
theorem sfld_81_1 : scalarField Try.prog 81 1 = true := by kernel_rfl
theorem fld_81_2 : fieldAt Try.prog 81 2 = true := by kernel_rfl
theorem sfld_81_2 : scalarField Try.prog 81 2 = true := by kernel_rfl
theorem fld_81_3 : fieldAt Try.prog 81 3 = true := by kernel_rfl
theorem sfld_81_3 : scalarField Try.prog 81 3 = true := by kernel_rfl
theorem zero_81 : zeroV Try.prog 81 = some (.agg [.int .i64 0, .int .i64 0, .int .i64 0, .str []]) := by kernel_rfl
theorem cells_84 : Try.prog.cellsOf 84 = 2 := by kernel_rfl
theorem bytes_84 : Try.prog.bytesOf 84 = 16 := by kernel_rfl
theorem str_84 : isStruct Try.prog 84 = true := by kernel_rfl
theorem ff_84 : fieldsFlat Try.prog 84 = true := by kernel_rfl
theorem fld_84_0 : fieldAt Try.prog 84 0 = true := by kernel_rfl
theorem sfld_84_0 : scalarField Try.prog 84 0 = true := by kernel_rfl
theorem fld_84_1 : fieldAt Try.prog 84 1 = true := by kernel_rfl
theorem sfld_84_1 : scalarField Try.prog 84 1 = true := by kernel_rfl
theorem zero_84 : zeroV Try.prog 84 = some (.agg [.int .i64 0, .int .i64 0]) := by kernel_rfl
theorem cells_104 : Try.prog.cellsOf 104 = 1 := by kernel_rfl
theorem bytes_104 : Try.prog.bytesOf 104 = 1 := by kernel_rfl
theorem scal_104 : isScalarT Try.prog 104 = true := by kernel_rfl
theorem zero_104 : zeroV Try.prog 104 = some (.int .u8 0) := by kernel_rfl
attribute [go_sem] Try.underlying2 Try.underlying3 Try.underlying4 Try.underlying5 Try.underlying6 Try.underlying8 Try.underlying9 Try.underlying10 Try.underlying11 Try.underlying12 Try.underlying14 Try.underlying19 Try.underlying22 Try.underlying24 Try.underlying26 Try.underlying28 Try.underlying38 Try.underlying39 Try.underlying41 Try.underlying53 Try.underlying54 Try.underlying56 Try.underlying70 Try.underlying73 Try.underlying79 Try.underlying81 Try.underlying84 Try.underlying104 cells_2 bytes_2 scal_2 zero_2 cells_3 bytes_3 scal_3 zero_3 cells_4 bytes_4 scal_4 zero_4 cells_5 bytes_5 scal_5 zero_5 cells_6 bytes_6 scal_6 zero_6 cells_8 bytes_8 str_8 ff_8 fld_8_0 fld_8_1 fld_8_2 fld_8_3 sfld_8_0 sfld_8_1 sfld_8_2 sfld_8_3 zero_8 cells_9 bytes_9 scal_9 zero_9 cells_10 bytes_10 scal_10 zero_10 cells_11 bytes_11 scal_11 zero_11 cells_12 bytes_12 scal_12 zero_12 cells_14 bytes_14 str_14 ff_14 fld_14_0 fld_14_1 sfld_14_0 sfld_14_1 zero_14 cells_19 bytes_19 str_19 ff_19 fld_19_0 sfld_19_0 cells_22 bytes_22 scal_22 zero_22 cells_24 bytes_24 str_24 ff_24 fld_24_0 fld_24_1 sfld_24_0 sfld_24_1 zero_24 cells_26 bytes_26 scal_26 zero_26 cells_28 bytes_28 str_28 ff_28 fld_28_0 fld_28_1 sfld_28_0 sfld_28_1 zero_28 cells_38 bytes_38 scal_38 zero_38 cells_39 bytes_39 scal_39 zero_39 cells_41 bytes_41 str_41 ff_41 fld_41_0 fld_41_1 fld_41_2 fld_41_3 fld_41_4 fld_41_5 fld_41_6 sfld_41_0 sfld_41_1 sfld_41_2 sfld_41_3 sfld_41_4 sfld_41_5 sfld_41_6 zero_41 cells_53 bytes_53 scal_53 zero_53 cells_54 bytes_54 scal_54 zero_54 cells_56 bytes_56 str_56 ff_56 fld_56_0 fld_56_1 fld_56_2 fld_56_3 fld_56_4 fld_56_5 fld_56_6 sfld_56_0 sfld_56_1 sfld_56_2 sfld_56_3 sfld_56_4 sfld_56_5 sfld_56_6 zero_56 cells_70 bytes_70 str_70 ff_70 fld_70_0 fld_70_1 fld_70_2 fld_70_3 sfld_70_0 sfld_70_1 sfld_70_2 sfld_70_3 zero_70 cells_73 bytes_73 str_73 ff_73 fld_73_0 fld_73_1 sfld_73_0 sfld_73_1 zero_73 cells_79 bytes_79 scal_79 zero_79 cells_81 bytes_81 str_81 ff_81 fld_81_0 fld_81_1 fld_81_2 fld_81_3 sfld_81_0 sfld_81_1 sfld_81_2 sfld_81_3 zero_81 cells_84 bytes_84 str_84 ff_84 fld_84_0 fld_84_1 sfld_84_0 sfld_84_1 zero_84 cells_104 bytes_104 scal_104 zero_104
end Go.Proofs.Ytdnafggminbalaa.Ty
