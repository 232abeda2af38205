/- Facts on the types of the program, each looked up in it. -/
import Derived.Test.YtihaeilbiihhaaaVmSet
import Derived.Test.YtihaeilbiihhaaaProg
import Derived.KernelRfl
namespace Go.Proofs.Ytihaeilbiihhaaa.Ty
open Go Go.VM
set_option maxRecDepth 100000
theorem cells_2 : Try.prog.cellsOf 2 = 1 := by kernel_rfl
theorem bytes_2 : Try.prog.bytesOf 2 = 8 := by kernel_rfl
theorem scal_2 : isScalarT Try.prog 2 = true := by kernel_rfl
theorem zero_2 : zeroV Try.prog 2 = some (.int .i64 0) := by kernel_rfl
theorem cells_3 : Try.prog.cellsOf 3 = 1 := by kernel_rfl
theorem bytes_3 : Try.prog.bytesOf 3 = 8 := by kernel_rfl
theorem scal_3 : isScalarT Try.prog 3 = true := by kernel_rfl
theorem zero_3 : zeroV Try.prog 3 = some (.int .i64 0) := by kernel_rfl
theorem cells_4 : Try.prog.cellsOf 4 = 1 := by kernel_rfl
theorem bytes_4 : Try.prog.bytesOf 4 = 1 := by kernel_rfl
theorem scal_4 : isScalarT Try.prog 4 = true := by kernel_rfl
theorem zero_4 : zeroV Try.prog 4 = some (.bool false) := by kernel_rfl
theorem cells_5 : Try.prog.cellsOf 5 = 1 := by kernel_rfl
theorem bytes_5 : Try.prog.bytesOf 5 = 1 := by kernel_rfl
theorem scal_5 : isScalarT Try.prog 5 = true := by kernel_rfl
theorem zero_5 : zeroV Try.prog 5 = some (.int .u8 0) := by kernel_rfl
theorem cells_6 : Try.prog.cellsOf 6 = 1 := by kernel_rfl
theorem bytes_6 : Try.prog.bytesOf 6 = 1 := by kernel_rfl
theorem scal_6 : isScalarT Try.prog 6 = true := by kernel_rfl
theorem zero_6 : zeroV Try.prog 6 = some (.int .u8 0) := by kernel_rfl
theorem cells_8 : Try.prog.cellsOf 8 = 4 := by kernel_rfl
theorem bytes_8 : Try.prog.bytesOf 8 = 24 := by kernel_rfl
theorem str_8 : isStruct Try.prog 8 = true := by kernel_rfl
theorem ff_8 : fieldsFlat Try.prog 8 = true := by kernel_rfl
theorem fld_8_0 : fieldAt Try.prog 8 0 = true := by kernel_rfl
theorem sfld_8_0 : scalarField Try.prog 8 0 = true := by kernel_rfl
theorem fld_8_1 : fieldAt Try.prog 8 1 = true := by kernel_rfl
theorem sfld_8_1 : scalarField Try.prog 8 1 = true := by kernel_rfl
theorem fld_8_2 : fieldAt Try.prog 8 2 = true := by kernel_rfl
theorem sfld_8_2 : scalarField Try.prog 8 2 = true := by kernel_rfl
theorem fld_8_3 : fieldAt Try.prog 8 3 = true := by kernel_rfl
theorem sfld_8_3 : scalarField Try.prog 8 3 = true := by kernel_rfl
theorem zero_8 : zeroV Try.prog 8 = some (.agg [.int .i64 0, .int .i64 0, .bool false, .int .u8 0]) := by kernel_rfl
theorem cells_9 : Try.prog.cellsOf 9 = 1 := by kernel_rfl
theorem bytes_9 : Try.prog.bytesOf 9 = 16 := by kernel_rfl
theorem scal_9 : isScalarT Try.prog 9 = true := by kernel_rfl
theorem zero_9 : zeroV Try.prog 9 = some (.str []) := by kernel_rfl
theorem cells_10 : Try.prog.cellsOf 10 = 1 := by kernel_rfl
theorem bytes_10 : Try.prog.bytesOf 10 = 16 := by kernel_rfl
theorem scal_10 : isScalarT Try.prog 10 = true := by kernel_rfl
theorem zero_10 : zeroV Try.prog 10 = some (.str []) := by kernel_rfl
theorem cells_11 : Try.prog.cellsOf 11 = 1 := by kernel_rfl
theorem bytes_11 : Try.prog.bytesOf 11 = 16 := by kernel_rfl
theorem scal_11 : isScalarT Try.prog 11 = true := by kernel_rfl
theorem zero_11 : zeroV Try.prog 11 = some (.str []) := by kernel_rfl
theorem cells_12 : Try.prog.cellsOf 12 = 1 := by kernel_rfl
theorem bytes_12 : Try.prog.bytesOf 12 = 8 := by kernel_rfl
theorem scal_12 : isScalarT Try.prog 12 = true := by kernel_rfl
theorem zero_12 : zeroV Try.prog 12 = some (.int .u64 0) := by kernel_rfl
theorem cells_14 : Try.prog.cellsOf 14 = 2 := by kernel_rfl
theorem bytes_14 : Try.prog.bytesOf 14 = 24 := by kernel_rfl
theorem str_14 : isStruct Try.prog 14 = true := by kernel_rfl
theorem ff_14 : fieldsFlat Try.prog 14 = true := by kernel_rfl
theorem fld_14_0 : fieldAt Try.prog 14 0 = true := by kernel_rfl
theorem sfld_14_0 : scalarField Try.prog 14 0 = true := by kernel_rfl
theorem fld_14_1 : fieldAt Try.prog 14 1 = true := by kernel_rfl
theorem sfld_14_1 : scalarField Try.prog 14 1 = true := by kernel_rfl
theorem zero_14 : zeroV Try.prog 14 = some (.agg [.str [], .int .u64 0]) := by kernel_rfl
theorem cells_19 : Try.prog.cellsOf 19 = 1 := by kernel_rfl
theorem bytes_19 : Try.prog.bytesOf 19 = 8 := by kernel_rfl
theorem str_19 : isStruct Try.prog 19 = true := by kernel_rfl
theorem ff_19 : fieldsFlat Try.prog 19 = true := by kernel_rfl
theorem fld_19_0 : fieldAt Try.prog 19 0 = true := by kernel_rfl
theorem sfld_19_0 : scalarField Try.prog 19 0 = true := by kernel_rfl
theorem cells_23 : Try.prog.cellsOf 23 = 1 := by kernel_rfl
theorem bytes_23 : Try.prog.bytesOf 23 = 24 := by kernel_rfl
theorem scal_23 : isScalarT Try.prog 23 = true := by kernel_rfl
theorem zero_23 : zeroV Try.prog 23 = some (.nils 1) := by kernel_rfl
theorem cells_25 : Try.prog.cellsOf 25 = 4 := by kernel_rfl
theorem bytes_25 : Try.prog.bytesOf 25 = 56 := by kernel_rfl
theorem str_25 : isStruct Try.prog 25 = true := by kernel_rfl
theorem ff_25 : fieldsFlat Try.prog 25 = true := by kernel_rfl
theorem fld_25_0 : fieldAt Try.prog 25 0 = true := by kernel_rfl
theorem sfld_25_0 : scalarField Try.prog 25 0 = true := by kernel_rfl
theorem fld_25_1 : fieldAt Try.prog 25 1 = true := by kernel_rfl
theorem sfld_25_1 : scalarField Try.prog 25 1 = true := by kernel_rfl
theorem fld_25_2 : fieldAt Try.prog 25 2 = true := by kernel_rfl
theorem sfld_25_2 : scalarField Try.prog 25 2 = true := by kernel_rfl
theorem fld_25_3 : fieldAt Try.prog 25 3 = true := by kernel_rfl
theorem sfld_25_3 : scalarField Try.prog 25 3 = true := by kernel_rfl
theorem zero_25 : zeroV Try.prog 25 = some (.agg [.str [], .int .i64 0, .nils 1, .int .i64 0]) := by kernel_rfl
theorem cells_28 : Try.prog.cellsOf 28 = 4 := by kernel_rfl
theorem bytes_28 : Try.prog.bytesOf 28 = 56 := by kernel_rfl
theorem str_28 : isStruct Try.prog 28 = true := by kernel_rfl
theorem ff_28 : fieldsFlat Try.prog 28 = true := by kernel_rfl
theorem fld_28_0 : fieldAt Try.prog 28 0 = true := by kernel_rfl
theorem sfld_28_0 : scalarField Try.prog 28 0 = true := by kernel_rfl
theorem fld_28_1 : fieldAt Try.prog 28 1 = true := by kernel_rfl
theorem sfld_28_1 : scalarField Try.prog 28 1 = true := by kernel_rfl
theorem fld_28_2 : fieldAt Try.prog 28 2 = true := by kernel_rfl
theorem sfld_28_2 : scalarField Try.prog 28 2 = true := by kernel_rfl
theorem fld_28_3 : fieldAt Try.prog 28 3 = true := by kernel_rfl
theorem sfld_28_3 : scalarField Try.prog 28 3 = true := by kernel_rfl
theorem zero_28 : zeroV Try.prog 28 = some (.agg [.str [], .int .i64 0, .nils 1, .int .i64 0]) := by kernel_rfl
theorem cells_34 : Try.prog.cellsOf 34 = 1 := by kernel_rfl
theorem bytes_34 : Try.prog.bytesOf 34 = 24 := by kernel_rfl
theorem scal_34 : isScalarT Try.prog 34 = true := by kernel_rfl
theorem zero_34 : zeroV Try.prog 34 = some (.nils 2) := by kernel_rfl
theorem cells_36 : Try.prog.cellsOf 36 = 7 := by kernel_rfl
theorem bytes_36 : Try.prog.bytesOf 36 = 72 := by kernel_rfl
theorem str_36 : isStruct Try.prog 36 = true := by kernel_rfl
theorem ff_36 : fieldsFlat Try.prog 36 = true := by kernel_rfl
theorem fld_36_0 : fieldAt Try.prog 36 0 = true := by kernel_rfl
theorem sfld_36_0 : scalarField Try.prog 36 0 = true := by kernel_rfl
theorem fld_36_1 : fieldAt Try.prog 36 1 = true := by kernel_rfl
theorem sfld_36_1 : scalarField Try.prog 36 1 = true := by kernel_rfl
theorem fld_36_2 : fieldAt Try.prog 36 2 = true := by kernel_rfl
theorem sfld_36_2 : scalarField Try.prog 36 2 = true := by kernel_rfl
theorem fld_36_3 : fieldAt Try.prog 36 3 = true := by kernel_rfl
theorem sfld_36_3 : scalarField Try.prog 36 3 = true := by kernel_rfl
theorem fld_36_4 : fieldAt Try.prog 36 4 = true := by kernel_rfl
theorem sfld_36_4 : scalarField Try.prog 36 4 = true := by kernel_rfl
theorem fld_36_5 : fieldAt Try.prog 36 5 = true := by kernel_rfl
theorem sfld_36_5 : scalarField Try.prog 36 5 = true := by kernel_rfl
theorem fld_36_6 : fieldAt Try.prog 36 6 = true := by kernel_rfl
theorem sfld_36_6 : scalarField Try.prog 36 6 = true := by kernel_rfl
theorem zero_36 : zeroV Try.prog 36 = some (.agg [.int .i64 0, .int .i64 0, .int .i64 0, .int .i64 0, .int .i64 0, .nils 2, .bool false]) := by kernel_rfl
theorem cells_39 : Try.prog.cellsOf 39 = 1 := by kernel_rfl
theorem bytes_39 : Try.prog.bytesOf 39 = 24 := by kernel_rfl
theorem scal_39 : isScalarT Try.prog 39 = true := by kernel_rfl
theorem zero_39 : zeroV Try.prog 39 = some (.nils 2) := by kernel_rfl
theorem cells_41 : Try.prog.cellsOf 41 = 7 := by kernel_rfl
theorem bytes_41 : Try.prog.bytesOf 41 = 72 := by kernel_rfl
theorem str_41 : isStruct Try.prog 41 = true := by kernel_rfl
theorem ff_41 : fieldsFlat Try.prog 41 = true := by kernel_rfl
theorem fld_41_0 : fieldAt Try.prog 41 0 = true := by kernel_rfl
theorem sfld_41_0 : scalarField Try.prog 41 0 = true := by kernel_rfl
theorem fld_41_1 : fieldAt Try.prog 41 1 = true := by kernel_rfl
theorem sfld_41_1 : scalarField Try.prog 41 1 = true := by kernel_rfl
theorem fld_41_2 : fieldAt Try.prog 41 2 = true := by kernel_rfl
theorem sfld_41_2 : scalarField Try.prog 41 2 = true := by kernel_rfl
theorem fld_41_3 : fieldAt Try.prog 41 3 = true := by kernel_rfl
theorem sfld_41_3 : scalarField Try.prog 41 3 = true := by kernel_rfl
theorem fld_41_4 : fieldAt Try.prog 41 4 = true := by kernel_rfl
theorem sfld_41_4 : scalarField Try.prog 41 4 = true := by kernel_rfl
theorem fld_41_5 : fieldAt Try.prog 41 5 = true := by kernel_rfl
theorem sfld_41_5 : scalarField Try.prog 41 5 = true := by kernel_rfl
theorem fld_41_6 : fieldAt Try.prog 41 6 = true := by kernel_rfl
theorem sfld_41_6 : scalarField Try.prog 41 6 = true := by kernel_rfl
theorem zero_41 : zeroV Try.prog 41 = some (.agg [.int .i64 0, .int .i64 0, .int .i64 0, .int .i64 0, .int .i64 0, .nils 2, .bool false]) := by kernel_rfl
theorem cells_46 : Try.prog.cellsOf 46 = 8 := by kernel_rfl
theorem bytes_46 : Try.prog.bytesOf 46 = 104 := by kernel_rfl
theorem str_46 : isStruct Try.prog 46 = true := by kernel_rfl
theorem ff_46 : fieldsFlat Try.prog 46 = true := by kernel_rfl
theorem fld_46_0 : fieldAt Try.prog 46 0 = true := by kernel_rfl
theorem sfld_46_0 : scalarField Try.prog 46 0 = true := by kernel_rfl
theorem fld_46_1 : fieldAt Try.prog 46 1 = true := by kernel_rfl
theorem sfld_46_1 : scalarField Try.prog 46 1 = true := by kernel_rfl
theorem fld_46_2 : fieldAt Try.prog 46 2 = true := by kernel_rfl
theorem sfld_46_2 : scalarField Try.prog 46 2 = true := by kernel_rfl
theorem fld_46_3 : fieldAt Try.prog 46 3 = true := by kernel_rfl
theorem sfld_46_3 : scalarField Try.prog 46 3 = true := by kernel_rfl
theorem fld_46_4 : fieldAt Try.prog 46 4 = true := by kernel_rfl
theorem sfld_46_4 : scalarField Try.prog 46 4 = true := by kernel_rfl
theorem fld_46_5 : fieldAt Try.prog 46 5 = true := by kernel_rfl
theorem sfld_46_5 : scalarField Try.prog 46 5 = true := by kernel_rfl
theorem fld_46_6 : fieldAt Try.prog 46 6 = true := by kernel_rfl
theorem sfld_46_6 : scalarField Try.prog 46 6 = true := by kernel_rfl
theorem fld_46_7 : fieldAt Try.prog 46 7 = true := by kernel_rfl
theorem sfld_46_7 : scalarField Try.prog 46 7 = true := by kernel_rfl
theorem zero_46 : zeroV Try.prog 46 = some (.agg [.int .i64 0, .str [], .str [], .nils 2, .int .i64 0, .int .i64 0, .int .i64 0, .str []]) := by kernel_rfl
theorem cells_50 : Try.prog.cellsOf 50 = 8 := by kernel_rfl
theorem bytes_50 : Try.prog.bytesOf 50 = 104 := by kernel_rfl
theorem str_50 : isStruct Try.prog 50 = true := by kernel_rfl
theorem ff_50 : fieldsFlat Try.prog 50 = true := by kernel_rfl
theorem fld_50_0 : fieldAt Try.prog 50 0 = true := by kernel_rfl
theorem sfld_50_0 : scalarField Try.prog 50 0 = true := by kernel_rfl
theorem fld_50_1 : fieldAt Try.prog 50 1 = true := by kernel_rfl
theorem sfld_50_1 : scalarField Try.prog 50 1 = true := by kernel_rfl
theorem fld_50_2 : fieldAt Try.prog 50 2 = true := by kernel_rfl
theorem sfld_50_2 : scalarField Try.prog 50 2 = true := by kernel_rfl
theorem fld_50_3 : fieldAt Try.prog 50 3 = true := by kernel_rfl
theorem sfld_50_3 : scalarField Try.prog 50 3 = true := by kernel_rfl
theorem fld_50_4 : fieldAt Try.prog 50 4 = true := by kernel_rfl
theorem sfld_50_4 : scalarField Try.prog 50 4 = true := by kernel_rfl
theorem fld_50_5 : fieldAt Try.prog 50 5 = true := by kernel_rfl
theorem sfld_50_5 : scalarField Try.prog 50 5 = true := by kernel_rfl
theorem fld_50_6 : fieldAt Try.prog 50 6 = true := by kernel_rfl
theorem sfld_50_6 : scalarField Try.prog 50 6 = true := by kernel_rfl
theorem fld_50_7 : fieldAt Try.prog 50 7 = true := by kernel_rfl
theorem sfld_50_7 : scalarField Try.prog 50 7 = true := by kernel_rfl
theorem zero_50 : zeroV Try.prog 50 = some (.agg [.int .i64 0, .str [], .str [], .nils 2, .int .i64 0, .int .i64 0, .int .i64 0, .str []]) := by kernel_rfl
theorem cells_54 : Try.prog.cellsOf 54 = 1 := by kernel_rfl
theorem bytes_54 : Try.prog.bytesOf 54 = 24 := by kernel_rfl
theorem scal_54 : isScalarT Try.prog 54 = true := by kernel_rfl
theorem zero_54 : zeroV Try.prog 54 = some (.nils 3) := by kernel_rfl
theorem cells_56 : Try.prog.cellsOf 56 = 1 := by kernel_rfl
theorem bytes_56 : Try.prog.bytesOf 56 = 24 := by kernel_rfl
theorem scal_56 : isScalarT Try.prog 56 = true := by kernel_rfl
theorem zero_56 : zeroV Try.prog 56 = some (.nils 3) := by kernel_rfl
theorem cells_73 : Try.prog.cellsOf 73 = 3 := by kernel_rfl
theorem bytes_73 : Try.prog.bytesOf 73 = 24 := by kernel_rfl
theorem str_73 : isStruct Try.prog 73 = true := by kernel_rfl
theorem ff_73 : fieldsFlat Try.prog 73 = true := by kernel_rfl
theorem fld_73_0 : fieldAt Try.prog 73 0 = true := by kernel_rfl
theorem sfld_73_0 : scalarField Try.prog 73 0 = true := by kernel_rfl
theorem fld_73_1 : fieldAt Try.prog 73 1 = true := by kernel_rfl
theorem sfld_73_1 : scalarField Try.prog 73 1 = true := by kernel_rfl
theorem fld_73_2 : fieldAt Try.prog 73 2 = true := by kernel_rfl
theorem sfld_73_2 : scalarField Try.prog 73 2 = true := by kernel_rfl
theorem zero_73 : zeroV Try.prog 73 = some (.agg [.int .i64 0, .int .i64 0, .int .i64 0]) := by kernel_rfl
theorem cells_75 : Try.prog.cellsOf 75 = 3 := by kernel_rfl
theorem bytes_75 : Try.prog.bytesOf 75 = 24 := by kernel_rfl
theorem str_75 : isStruct Try.prog 75 = true := by kernel_rfl
theorem ff_75 : fieldsFlat Try.prog 75 = true := by kernel_rfl
theorem fld_75_0 : fieldAt Try.prog 75 0 = true := by kernel_rfl
theorem sfld_75_0 : scalarField Try.prog 75 0 = true := by kernel_rfl
theorem fld_75_1 : fieldAt Try.prog 75 1 = true := by kernel_rfl
theorem sfld_75_1 : scalarField Try.prog 75 1 = true := by kernel_rfl
theorem fld_75_2 : fieldAt Try.prog 75 2 = true := by kernel_rfl
theorem sfld_75_2 : scalarField Try.prog 75 2 = true := by kernel_rfl
theorem zero_75 : zeroV Try.prog 75 = some (.agg [.int .i64 0, .int .i64 0, .int .i64 0]) := by kernel_rfl
theorem cells_81 : Try.prog.cellsOf 81 = 2 := by kernel_rfl
theorem bytes_81 : Try.prog.bytesOf 81 = 16 := by kernel_rfl
theorem str_81 : isStruct Try.prog 81 = true := by kernel_rfl
theorem ff_81 : fieldsFlat Try.prog 81 = true := by kernel_rfl
theorem fld_81_0 : fieldAt Try.prog 81 0 = true := by kernel_rfl
theorem sfld_81_0 : scalarField Try.prog 81 0 = true := by kernel_rfl
theorem fld_81_1 : fieldAt Try.prog 81 1 = true := by kernel_rfl
theorem sfld_81_1 : scalarField Try.prog 81 1 = true := by kernel_rfl
theorem zero_81 : zeroV Try.prog 81 = some (.agg [.int .i64 0, .int .i64 0]) := by kernel_rfl
theorem cells_83 : Try.prog.cellsOf 83 = 2 := by kernel_rfl
theorem bytes_83 : Try.prog.bytesOf 83 = 16 := by kernel_rfl
theorem str_83 : isStruct Try.prog 83 = true := by kernel_rfl
theorem ff_83 : fieldsFlat Try.prog 83 = true := by kernel_rfl
theorem fld_83_0 : fieldAt Try.prog 83 0 = true := by kernel_rfl
theorem sfld_83_0 : scalarField Try.prog 83 0 = true := by kernel_rfl
theorem fld_83_1 : fieldAt Try.prog 83 1 = true := by kernel_rfl
theorem sfld_83_1 : scalarField Try.prog 83 1 = true := by kernel_rfl
theorem zero_83 : zeroV Try.prog 83 = some (.agg [.int .i64 0, .int .i64 0]) := by kernel_rfl
theorem cells_95 : Try.prog.cellsOf 95 = 1 := by kernel_rfl
theorem bytes_95 : Try.prog.bytesOf 95 = 1 := by kernel_rfl
theorem scal_95 : isScalarT Try.prog 95 = true := by kernel_rfl
theorem zero_95 : zeroV Try.prog 95 = some (.int .u8 0) := by kernel_rfl
attribute [go_sem] Try.underlying2 Try.underlying3 Try.underlying4 Try.underlying5 Try.underlying6 Try.underlying8 Try.underlying9 Try.underlying10 Try.underlying11 Try.underlying12 Try.underlying14 Try.underlying19 Try.underlying23 Try.underlying25 Try.underlying28 Try.underlying34 Try.underlying36 Try.underlying39 Try.underlying41 Try.underlying46 Try.underlying50 Try.underlying54 Try.underlying56 Try.underlying73 Try.underlying75 Try.underlying81 Try.underlying83 Try.underlying95 cells_2 bytes_2 scal_2 zero_2 cells_3 bytes_3 scal_3 zero_3 cells_4 bytes_4 scal_4 zero_4 cells_5 bytes_5 scal_5 zero_5 cells_6 bytes_6 scal_6 zero_6 cells_8 bytes_8 str_8 ff_8 fld_8_0 fld_8_1 fld_8_2 fld_8_3 sfld_8_0 sfld_8_1 sfld_8_2 sfld_8_3 zero_8 cells_9 bytes_9 scal_9 zero_9 cells_10 bytes_10 scal_10 zero_10 cells_11 bytes_11 scal_11 zero_11 cells_12 bytes_12 scal_12 zero_12 cells_14 bytes_14 str_14 ff_14 fld_14_0 fld_14_1 sfld_14_0 sfld_14_1 zero_14 cells_19 bytes_19 str_19 ff_19 fld_19_0 sfld_19_0 cells_23 bytes_23 scal_23 zero_23 cells_25 bytes_25 str_25 ff_25 fld_25_0 fld_25_1 fld_25_2 fld_25_3 sfld_25_0 sfld_25_1 sfld_25_2 sfld_25_3 zero_25 cells_28 bytes_28 str_28 ff_28 fld_28_0 fld_28_1 fld_28_2 fld_28_3 sfld_28_0 sfld_28_1 sfld_28_2 sfld_28_3 zero_28 cells_34 bytes_34 scal_34 zero_34 cells_36 bytes_36 str_36 ff_36 fld_36_0 fld_36_1 fld_36_2 fld_36_3 fld_36_4 fld_36_5 fld_36_6 sfld_36_0 sfld_36_1 sfld_36_2 sfld_36_3 sfld_36_4 sfld_36_5 sfld_36_6 zero_36 cells_39 bytes_39 scal_39 zero_39 cells_41 bytes_41 str_41 ff_41 fld_41_0 fld_41_1 fld_41_2 fld_41_3 fld_41_4 fld_41_5 fld_41_6 sfld_41_0 sfld_41_1 sfld_41_2 sfld_41_3 sfld_41_4 sfld_41_5 sfld_41_6 zero_41 cells_46 bytes_46 str_46 ff_46 fld_46_0 fld_46_1 fld_46_2 fld_46_3 fld_46_4 fld_46_5 fld_46_6 fld_46_7 sfld_46_0 sfld_46_1 sfld_46_2 sfld_46_3 sfld_46_4 sfld_46_5 sfld_46_6 sfld_46_7 zero_46 cells_50 bytes_50 str_50 ff_50 fld_50_0 fld_50_1 fld_50_2 fld_50_3 fld_50_4 fld_50_5 fld_50_6 fld_50_7 sfld_50_0 sfld_50_1 sfld_50_2 sfld_50_3 sfld_50_4 sfld_50_5 sfld_50_6 sfld_50_7 zero_50 cells_54 bytes_54 scal_54 zero_54 cells_56 bytes_56 scal_56 zero_56 cells_73 bytes_73 str_73 ff_73 fld_73_0 fld_73_1 fld_73_2 sfld_73_0 sfld_73_1 sfld_73_2 zero_73 cells_75 bytes_75 str_75 ff_75 fld_75_0 fld_75_1 fld_75_2 sfld_75_0 sfld_75_1 sfld_75_2 zero_75 cells_81 bytes_81 str_81 ff_81 fld_81_0 fld_81_1 sfld_81_0 sfld_81_1 zero_81 cells_83 bytes_83 str_83 ff_83 fld_83_0 fld_83_1 sfld_83_0 sfld_83_1 zero_83 cells_95 bytes_95 scal_95 zero_95
end Go.Proofs.Ytihaeilbiihhaaa.Ty
