/- Facts on the types of the program, each looked up in it. -/
import Derived.Test.YtknagbmhmjcnkaaVmSet
import Derived.Test.YtknagbmhmjcnkaaProg
import Derived.KernelRfl
namespace Go.Proofs.Ytknagbmhmjcnkaa.Ty
open Go Go.VM
set_option maxRecDepth 100000
theorem cells_2 : Try.prog.cellsOf 2 = 1 := by kernel_rfl
theorem bytes_2 : Try.prog.bytesOf 2 = 8 := by kernel_rfl
theorem scal_2 : isScalarT Try.prog 2 = true := by kernel_rfl
theorem zero_2 : zeroV Try.prog 2 = some (.int .i64 0) := by kernel_rfl
theorem cells_3 : Try.prog.cellsOf 3 = 1 := by kernel_rfl
theorem bytes_3 : Try.prog.bytesOf 3 = 8 := by kernel_rfl
theorem scal_3 : isScalarT Try.prog 3 = true := by kernel_rfl
theorem zero_3 : zeroV Try.prog 3 = some (.int .i64 0) := by kernel_rfl
theorem cells_4 : Try.prog.cellsOf 4 = 1 := by kernel_rfl
theorem bytes_4 : Try.prog.bytesOf 4 = 1 := by kernel_rfl
theorem scal_4 : isScalarT Try.prog 4 = true := by kernel_rfl
theorem zero_4 : zeroV Try.prog 4 = some (.bool false) := by kernel_rfl
theorem cells_5 : Try.prog.cellsOf 5 = 1 := by kernel_rfl
theorem bytes_5 : Try.prog.bytesOf 5 = 1 := by kernel_rfl
theorem scal_5 : isScalarT Try.prog 5 = true := by kernel_rfl
theorem zero_5 : zeroV Try.prog 5 = some (.int .u8 0) := by kernel_rfl
theorem cells_6 : Try.prog.cellsOf 6 = 1 := by kernel_rfl
theorem bytes_6 : Try.prog.bytesOf 6 = 1 := by kernel_rfl
theorem scal_6 : isScalarT Try.prog 6 = true := by kernel_rfl
theorem zero_6 : zeroV Try.prog 6 = some (.int .u8 0) := by kernel_rfl
theorem cells_8 : Try.prog.cellsOf 8 = 4 := by kernel_rfl
theorem bytes_8 : Try.prog.bytesOf 8 = 24 := by kernel_rfl
theorem str_8 : isStruct Try.prog 8 = true := by kernel_rfl
theorem ff_8 : fieldsFlat Try.prog 8 = true := by kernel_rfl
theorem fld_8_0 : fieldAt Try.prog 8 0 = true := by kernel_rfl
theorem sfld_8_0 : scalarField Try.prog 8 0 = true := by kernel_rfl
theorem fld_8_1 : fieldAt Try.prog 8 1 = true := by kernel_rfl
theorem sfld_8_1 : scalarField Try.prog 8 1 = true := by kernel_rfl
theorem fld_8_2 : fieldAt Try.prog 8 2 = true := by kernel_rfl
theorem sfld_8_2 : scalarField Try.prog 8 2 = true := by kernel_rfl
theorem fld_8_3 : fieldAt Try.prog 8 3 = true := by kernel_rfl
theorem sfld_8_3 : scalarField Try.prog 8 3 = true := by kernel_rfl
theorem zero_8 : zeroV Try.prog 8 = some (.agg [.int .i64 0, .int .i64 0, .bool false, .int .u8 0]) := by kernel_rfl
theorem cells_9 : Try.prog.cellsOf 9 = 1 := by kernel_rfl
theorem bytes_9 : Try.prog.bytesOf 9 = 16 := by kernel_rfl
theorem scal_9 : isScalarT Try.prog 9 = true := by kernel_rfl
theorem zero_9 : zeroV Try.prog 9 = some (.str []) := by kernel_rfl
theorem cells_10 : Try.prog.cellsOf 10 = 1 := by kernel_rfl
theorem bytes_10 : Try.prog.bytesOf 10 = 16 := by kernel_rfl
theorem scal_10 : isScalarT Try.prog 10 = true := by kernel_rfl
theorem zero_10 : zeroV Try.prog 10 = some (.str []) := by kernel_rfl
theorem cells_11 : Try.prog.cellsOf 11 = 1 := by kernel_rfl
theorem bytes_11 : Try.prog.bytesOf 11 = 16 := by kernel_rfl
theorem scal_11 : isScalarT Try.prog 11 = true := by kernel_rfl
theorem zero_11 : zeroV Try.prog 11 = some (.str []) := by kernel_rfl
theorem cells_12 : Try.prog.cellsOf 12 = 1 := by kernel_rfl
theorem bytes_12 : Try.prog.bytesOf 12 = 8 := by kernel_rfl
theorem scal_12 : isScalarT Try.prog 12 = true := by kernel_rfl
theorem zero_12 : zeroV Try.prog 12 = some (.int .u64 0) := by kernel_rfl
theorem cells_14 : Try.prog.cellsOf 14 = 2 := by kernel_rfl
theorem bytes_14 : Try.prog.bytesOf 14 = 24 := by kernel_rfl
theorem str_14 : isStruct Try.prog 14 = true := by kernel_rfl
theorem ff_14 : fieldsFlat Try.prog 14 = true := by kernel_rfl
theorem fld_14_0 : fieldAt Try.prog 14 0 = true := by kernel_rfl
theorem sfld_14_0 : scalarField Try.prog 14 0 = true := by kernel_rfl
theorem fld_14_1 : fieldAt Try.prog 14 1 = true := by kernel_rfl
theorem sfld_14_1 : scalarField Try.prog 14 1 = true := by kernel_rfl
theorem zero_14 : zeroV Try.prog 14 = some (.agg [.str [], .int .u64 0]) := by kernel_rfl
theorem cells_19 : Try.prog.cellsOf 19 = 1 := by kernel_rfl
theorem bytes_19 : Try.prog.bytesOf 19 = 8 := by kernel_rfl
theorem str_19 : isStruct Try.prog 19 = true := by kernel_rfl
theorem ff_19 : fieldsFlat Try.prog 19 = true := by kernel_rfl
theorem fld_19_0 : fieldAt Try.prog 19 0 = true := by kernel_rfl
theorem sfld_19_0 : scalarField Try.prog 19 0 = true := by kernel_rfl
theorem cells_22 : Try.prog.cellsOf 22 = 1 := by kernel_rfl
theorem bytes_22 : Try.prog.bytesOf 22 = 24 := by kernel_rfl
theorem scal_22 : isScalarT Try.prog 22 = true := by kernel_rfl
theorem zero_22 : zeroV Try.prog 22 = some (.nils 1) := by kernel_rfl
theorem cells_24 : Try.prog.cellsOf 24 = 1 := by kernel_rfl
theorem bytes_24 : Try.prog.bytesOf 24 = 24 := by kernel_rfl
theorem scal_24 : isScalarT Try.prog 24 = true := by kernel_rfl
theorem zero_24 : zeroV Try.prog 24 = some (.nils 3) := by kernel_rfl
theorem cells_25 : Try.prog.cellsOf 25 = 1 := by kernel_rfl
theorem bytes_25 : Try.prog.bytesOf 25 = 24 := by kernel_rfl
theorem scal_25 : isScalarT Try.prog 25 = true := by kernel_rfl
theorem zero_25 : zeroV Try.prog 25 = some (.nils 2) := by kernel_rfl
theorem cells_27 : Try.prog.cellsOf 27 = 7 := by kernel_rfl
theorem bytes_27 : Try.prog.bytesOf 27 = 72 := by kernel_rfl
theorem str_27 : isStruct Try.prog 27 = true := by kernel_rfl
theorem ff_27 : fieldsFlat Try.prog 27 = true := by kernel_rfl
theorem fld_27_0 : fieldAt Try.prog 27 0 = true := by kernel_rfl
theorem sfld_27_0 : scalarField Try.prog 27 0 = true := by kernel_rfl
theorem fld_27_1 : fieldAt Try.prog 27 1 = true := by kernel_rfl
theorem sfld_27_1 : scalarField Try.prog 27 1 = true := by kernel_rfl
theorem fld_27_2 : fieldAt Try.prog 27 2 = true := by kernel_rfl
theorem sfld_27_2 : scalarField Try.prog 27 2 = true := by kernel_rfl
theorem fld_27_3 : fieldAt Try.prog 27 3 = true := by kernel_rfl
theorem sfld_27_3 : scalarField Try.prog 27 3 = true := by kernel_rfl
theorem fld_27_4 : fieldAt Try.prog 27 4 = true := by kernel_rfl
theorem sfld_27_4 : scalarField Try.prog 27 4 = true := by kernel_rfl
theorem fld_27_5 : fieldAt Try.prog 27 5 = true := by kernel_rfl
theorem sfld_27_5 : scalarField Try.prog 27 5 = true := by kernel_rfl
theorem fld_27_6 : fieldAt Try.prog 27 6 = true := by kernel_rfl
theorem sfld_27_6 : scalarField Try.prog 27 6 = true := by kernel_rfl
theorem zero_27 : zeroV Try.prog 27 = some (.agg [.int .i64 0, .int .i64 0, .int .i64 0, .int .i64 0, .int .i64 0, .nils 2, .bool false]) := by kernel_rfl
theorem cells_30 : Try.prog.cellsOf 30 = 1 := by kernel_rfl
theorem bytes_30 : Try.prog.bytesOf 30 = 24 := by kernel_rfl
theorem scal_30 : isScalarT Try.prog 30 = true := by kernel_rfl
theorem zero_30 : zeroV Try.prog 30 = some (.nils 1) := by kernel_rfl
theorem cells_34 : Try.prog.cellsOf 34 = 3 := by kernel_rfl
theorem bytes_34 : Try.prog.bytesOf 34 = 24 := by kernel_rfl
theorem str_34 : isStruct Try.prog 34 = true := by kernel_rfl
theorem ff_34 : fieldsFlat Try.prog 34 = true := by kernel_rfl
theorem seq_34 : structEq Try.prog 34 = some [0, 0, 0] := by kernel_rfl
theorem fld_34_0 : fieldAt Try.prog 34 0 = true := by kernel_rfl
theorem sfld_34_0 : scalarField Try.prog 34 0 = true := by kernel_rfl
theorem fld_34_1 : fieldAt Try.prog 34 1 = true := by kernel_rfl
theorem sfld_34_1 : scalarField Try.prog 34 1 = true := by kernel_rfl
theorem fld_34_2 : fieldAt Try.prog 34 2 = true := by kernel_rfl
theorem sfld_34_2 : scalarField Try.prog 34 2 = true := by kernel_rfl
theorem zero_34 : zeroV Try.prog 34 = some (.agg [.int .i64 0, .int .i64 0, .int .i64 0]) := by kernel_rfl
theorem cells_46 : Try.prog.cellsOf 46 = 3 := by kernel_rfl
theorem bytes_46 : Try.prog.bytesOf 46 = 40 := by kernel_rfl
theorem str_46 : isStruct Try.prog 46 = true := by kernel_rfl
theorem ff_46 : fieldsFlat Try.prog 46 = true := by kernel_rfl
theorem fld_46_0 : fieldAt Try.prog 46 0 = true := by kernel_rfl
theorem sfld_46_0 : scalarField Try.prog 46 0 = true := by kernel_rfl
theorem fld_46_1 : fieldAt Try.prog 46 1 = true := by kernel_rfl
theorem sfld_46_1 : scalarField Try.prog 46 1 = true := by kernel_rfl
theorem fld_46_2 : fieldAt Try.prog 46 2 = true := by kernel_rfl
theorem sfld_46_2 : scalarField Try.prog 46 2 = true := by kernel_rfl
theorem zero_46 : zeroV Try.prog 46 = some (.agg [.nils 1, .int .i64 0, .int .i64 0]) := by kernel_rfl
theorem cells_48 : Try.prog.cellsOf 48 = 1 := by kernel_rfl
theorem bytes_48 : Try.prog.bytesOf 48 = 8 := by kernel_rfl
theorem scal_48 : isScalarT Try.prog 48 = true := by kernel_rfl
theorem zero_48 : zeroV Try.prog 48 = some (.int .u64 0) := by kernel_rfl
theorem cells_54 : Try.prog.cellsOf 54 = 2 := by kernel_rfl
theorem bytes_54 : Try.prog.bytesOf 54 = 16 := by kernel_rfl
theorem str_54 : isStruct Try.prog 54 = true := by kernel_rfl
theorem ff_54 : fieldsFlat Try.prog 54 = true := by kernel_rfl
theorem fld_54_0 : fieldAt Try.prog 54 0 = true := by kernel_rfl
theorem sfld_54_0 : scalarField Try.prog 54 0 = true := by kernel_rfl
theorem fld_54_1 : fieldAt Try.prog 54 1 = true := by kernel_rfl
theorem sfld_54_1 : scalarField Try.prog 54 1 = true := by kernel_rfl
theorem zero_54 : zeroV Try.prog 54 = some (.agg [.int .i64 0, .int .i64 0]) := by kernel_rfl
theorem cells_57 : Try.prog.cellsOf 57 = 1 := by kernel_rfl
theorem bytes_57 : Try.prog.bytesOf 57 = 24 := by kernel_rfl
theorem scal_57 : isScalarT Try.prog 57 = true := by kernel_rfl
theorem zero_57 : zeroV Try.prog 57 = some (.nils 1) := by kernel_rfl
theorem cells_69 : Try.prog.cellsOf 69 = 1 := by kernel_rfl
theorem bytes_69 : Try.prog.bytesOf 69 = 1 := by kernel_rfl
theorem scal_69 : isScalarT Try.prog 69 = true := by kernel_rfl
theorem zero_69 : zeroV Try.prog 69 = some (.int .u8 0) := by kernel_rfl
attribute [go_sem] Try.underlying2 Try.underlying3 Try.underlying4 Try.underlying5 Try.underlying6 Try.underlying8 Try.underlying9 Try.underlying10 Try.underlying11 Try.underlying12 Try.underlying14 Try.underlying19 Try.underlying22 Try.underlying24 Try.underlying25 Try.underlying27 Try.underlying30 Try.underlying34 Try.underlying46 Try.underlying48 Try.underlying54 Try.underlying57 Try.underlying69 cells_2 bytes_2 scal_2 zero_2 cells_3 bytes_3 scal_3 zero_3 cells_4 bytes_4 scal_4 zero_4 cells_5 bytes_5 scal_5 zero_5 cells_6 bytes_6 scal_6 zero_6 cells_8 bytes_8 str_8 ff_8 fld_8_0 fld_8_1 fld_8_2 fld_8_3 sfld_8_0 sfld_8_1 sfld_8_2 sfld_8_3 zero_8 cells_9 bytes_9 scal_9 zero_9 cells_10 bytes_10 scal_10 zero_10 cells_11 bytes_11 scal_11 zero_11 cells_12 bytes_12 scal_12 zero_12 cells_14 bytes_14 str_14 ff_14 fld_14_0 fld_14_1 sfld_14_0 sfld_14_1 zero_14 cells_19 bytes_19 str_19 ff_19 fld_19_0 sfld_19_0 cells_22 bytes_22 scal_22 zero_22 cells_24 bytes_24 scal_24 zero_24 cells_25 bytes_25 scal_25 zero_25 cells_27 bytes_27 str_27 ff_27 fld_27_0 fld_27_1 fld_27_2 fld_27_3 fld_27_4 fld_27_5 fld_27_6 sfld_27_0 sfld_27_1 sfld_27_2 sfld_27_3 sfld_27_4 sfld_27_5 sfld_27_6 zero_27 cells_30 bytes_30 scal_30 zero_30 cells_34 bytes_34 str_34 ff_34 seq_34 fld_34_0 fld_34_1 fld_34_2 sfld_34_0 sfld_34_1 sfld_34_2 zero_34 cells_46 bytes_46 str_46 ff_46 fld_46_0 fld_46_1 fld_46_2 sfld_46_0 sfld_46_1 sfld_46_2 zero_46 cells_48 bytes_48 scal_48 zero_48 cells_54 bytes_54 str_54 ff_54 fld_54_0 fld_54_1 sfld_54_0 sfld_54_1 zero_54 cells_57 bytes_57 scal_57 zero_57 cells_69 bytes_69 scal_69 zero_69
end Go.Proofs.Ytknagbmhmjcnkaa.Ty
