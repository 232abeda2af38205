/- Facts on the types of the program, each looked up in it. -/
import Derived.Test.YtnledgcplgdpmaaVmSet
import Derived.Test.YtnledgcplgdpmaaProg
import Derived.KernelRfl
namespace Go.Proofs.Ytnledgcplgdpmaa.Ty
open Go Go.VM
set_option maxRecDepth 100000
theorem cells_2 : Try.prog.cellsOf 2 = 1 := by kernel_rfl
theorem bytes_2 : Try.prog.bytesOf 2 = 8 := by kernel_rfl
theorem scal_2 : isScalarT Try.prog 2 = true := by kernel_rfl
theorem zero_2 : zeroV Try.prog 2 = some (.int .i64 0) := by kernel_rfl
theorem cells_3 : Try.prog.cellsOf 3 = 1 := by kernel_rfl
theorem bytes_3 : Try.prog.bytesOf 3 = 8 := by kernel_rfl
theorem scal_3 : isScalarT Try.prog 3 = true := by kernel_rfl
theorem zero_3 : zeroV Try.prog 3 = some (.int .i64 0) := by kernel_rfl
theorem cells_4 : Try.prog.cellsOf 4 = 1 := by kernel_rfl
theorem bytes_4 : Try.prog.bytesOf 4 = 1 := by kernel_rfl
theorem scal_4 : isScalarT Try.prog 4 = true := by kernel_rfl
theorem zero_4 : zeroV Try.prog 4 = some (.bool false) := by kernel_rfl
theorem cells_5 : Try.prog.cellsOf 5 = 1 := by kernel_rfl
theorem bytes_5 : Try.prog.bytesOf 5 = 1 := by kernel_rfl
theorem scal_5 : isScalarT Try.prog 5 = true := by kernel_rfl
theorem zero_5 : zeroV Try.prog 5 = some (.int .u8 0) := by kernel_rfl
theorem cells_6 : Try.prog.cellsOf 6 = 1 := by kernel_rfl
theorem bytes_6 : Try.prog.bytesOf 6 = 1 := by kernel_rfl
theorem scal_6 : isScalarT Try.prog 6 = true := by kernel_rfl
theorem zero_6 : zeroV Try.prog 6 = some (.int .u8 0) := by kernel_rfl
theorem cells_8 : Try.prog.cellsOf 8 = 4 := by kernel_rfl
theorem bytes_8 : Try.prog.bytesOf 8 = 24 := by kernel_rfl
theorem str_8 : isStruct Try.prog 8 = true := by kernel_rfl
theorem ff_8 : fieldsFlat Try.prog 8 = true := by kernel_rfl
theorem fld_8_0 : fieldAt Try.prog 8 0 = true := by kernel_rfl
theorem sfld_8_0 : scalarField Try.prog 8 0 = true := by kernel_rfl
theorem fld_8_1 : fieldAt Try.prog 8 1 = true := by kernel_rfl
theorem sfld_8_1 : scalarField Try.prog 8 1 = true := by kernel_rfl
theorem fld_8_2 : fieldAt Try.prog 8 2 = true := by kernel_rfl
theorem sfld_8_2 : scalarField Try.prog 8 2 = true := by kernel_rfl
theorem fld_8_3 : fieldAt Try.prog 8 3 = true := by kernel_rfl
theorem sfld_8_3 : scalarField Try.prog 8 3 = true := by kernel_rfl
theorem zero_8 : zeroV Try.prog 8 = some (.agg [.int .i64 0, .int .i64 0, .bool false, .int .u8 0]) := by kernel_rfl
theorem cells_9 : Try.prog.cellsOf 9 = 1 := by kernel_rfl
theorem bytes_9 : Try.prog.bytesOf 9 = 16 := by kernel_rfl
theorem scal_9 : isScalarT Try.prog 9 = true := by kernel_rfl
theorem zero_9 : zeroV Try.prog 9 = some (.str []) := by kernel_rfl
theorem cells_10 : Try.prog.cellsOf 10 = 1 := by kernel_rfl
theorem bytes_10 : Try.prog.bytesOf 10 = 16 := by kernel_rfl
theorem scal_10 : isScalarT Try.prog 10 = true := by kernel_rfl
theorem zero_10 : zeroV Try.prog 10 = some (.str []) := by kernel_rfl
theorem cells_11 : Try.prog.cellsOf 11 = 1 := by kernel_rfl
theorem bytes_11 : Try.prog.bytesOf 11 = 16 := by kernel_rfl
theorem scal_11 : isScalarT Try.prog 11 = true := by kernel_rfl
theorem zero_11 : zeroV Try.prog 11 = some (.str []) := by kernel_rfl
theorem cells_12 : Try.prog.cellsOf 12 = 1 := by kernel_rfl
theorem bytes_12 : Try.prog.bytesOf 12 = 8 := by kernel_rfl
theorem scal_12 : isScalarT Try.prog 12 = true := by kernel_rfl
theorem zero_12 : zeroV Try.prog 12 = some (.int .u64 0) := by kernel_rfl
theorem cells_14 : Try.prog.cellsOf 14 = 2 := by kernel_rfl
theorem bytes_14 : Try.prog.bytesOf 14 = 24 := by kernel_rfl
theorem str_14 : isStruct Try.prog 14 = true := by kernel_rfl
theorem ff_14 : fieldsFlat Try.prog 14 = true := by kernel_rfl
theorem fld_14_0 : fieldAt Try.prog 14 0 = true := by kernel_rfl
theorem sfld_14_0 : scalarField Try.prog 14 0 = true := by kernel_rfl
theorem fld_14_1 : fieldAt Try.prog 14 1 = true := by kernel_rfl
theorem sfld_14_1 : scalarField Try.prog 14 1 = true := by kernel_rfl
theorem zero_14 : zeroV Try.prog 14 = some (.agg [.str [], .int .u64 0]) := by kernel_rfl
theorem cells_19 : Try.prog.cellsOf 19 = 1 := by kernel_rfl
theorem bytes_19 : Try.prog.bytesOf 19 = 8 := by kernel_rfl
theorem str_19 : isStruct Try.prog 19 = true := by kernel_rfl
theorem ff_19 : fieldsFlat Try.prog 19 = true := by kernel_rfl
theorem fld_19_0 : fieldAt Try.prog 19 0 = true := by kernel_rfl
theorem sfld_19_0 : scalarField Try.prog 19 0 = true := by kernel_rfl
theorem cells_22 : Try.prog.cellsOf 22 = 1 := by kernel_rfl
theorem bytes_22 : Try.prog.bytesOf 22 = 24 := by kernel_rfl
theorem scal_22 : isScalarT Try.prog 22 = true := by kernel_rfl
theorem zero_22 : zeroV Try.prog 22 = some (.nils 4) := by kernel_rfl
theorem cells_23 : Try.prog.cellsOf 23 = 1 := by kernel_rfl
theorem bytes_23 : Try.prog.bytesOf 23 = 24 := by kernel_rfl
theorem scal_23 : isScalarT Try.prog 23 = true := by kernel_rfl
theorem zero_23 : zeroV Try.prog 23 = some (.nils 2) := by kernel_rfl
theorem cells_25 : Try.prog.cellsOf 25 = 7 := by kernel_rfl
theorem bytes_25 : Try.prog.bytesOf 25 = 96 := by kernel_rfl
theorem str_25 : isStruct Try.prog 25 = true := by kernel_rfl
theorem ff_25 : fieldsFlat Try.prog 25 = true := by kernel_rfl
theorem fld_25_0 : fieldAt Try.prog 25 0 = true := by kernel_rfl
theorem sfld_25_0 : scalarField Try.prog 25 0 = true := by kernel_rfl
theorem fld_25_1 : fieldAt Try.prog 25 1 = true := by kernel_rfl
theorem sfld_25_1 : scalarField Try.prog 25 1 = true := by kernel_rfl
theorem fld_25_2 : fieldAt Try.prog 25 2 = true := by kernel_rfl
theorem sfld_25_2 : scalarField Try.prog 25 2 = true := by kernel_rfl
theorem fld_25_3 : fieldAt Try.prog 25 3 = true := by kernel_rfl
theorem sfld_25_3 : scalarField Try.prog 25 3 = true := by kernel_rfl
theorem fld_25_4 : fieldAt Try.prog 25 4 = true := by kernel_rfl
theorem sfld_25_4 : scalarField Try.prog 25 4 = true := by kernel_rfl
theorem fld_25_5 : fieldAt Try.prog 25 5 = true := by kernel_rfl
theorem sfld_25_5 : scalarField Try.prog 25 5 = true := by kernel_rfl
theorem fld_25_6 : fieldAt Try.prog 25 6 = true := by kernel_rfl
theorem sfld_25_6 : scalarField Try.prog 25 6 = true := by kernel_rfl
theorem zero_25 : zeroV Try.prog 25 = some (.agg [.str [], .int .i64 0, .int .i64 0, .int .i64 0, .nils 4, .nils 2, .int .i64 0]) := by kernel_rfl
theorem cells_27 : Try.prog.cellsOf 27 = 1 := by kernel_rfl
theorem bytes_27 : Try.prog.bytesOf 27 = 24 := by kernel_rfl
theorem scal_27 : isScalarT Try.prog 27 = true := by kernel_rfl
theorem zero_27 : zeroV Try.prog 27 = some (.nils 4) := by kernel_rfl
theorem cells_29 : Try.prog.cellsOf 29 = 1 := by kernel_rfl
theorem bytes_29 : Try.prog.bytesOf 29 = 24 := by kernel_rfl
theorem scal_29 : isScalarT Try.prog 29 = true := by kernel_rfl
theorem zero_29 : zeroV Try.prog 29 = some (.nils 2) := by kernel_rfl
theorem cells_31 : Try.prog.cellsOf 31 = 7 := by kernel_rfl
theorem bytes_31 : Try.prog.bytesOf 31 = 96 := by kernel_rfl
theorem str_31 : isStruct Try.prog 31 = true := by kernel_rfl
theorem ff_31 : fieldsFlat Try.prog 31 = true := by kernel_rfl
theorem fld_31_0 : fieldAt Try.prog 31 0 = true := by kernel_rfl
theorem sfld_31_0 : scalarField Try.prog 31 0 = true := by kernel_rfl
theorem fld_31_1 : fieldAt Try.prog 31 1 = true := by kernel_rfl
theorem sfld_31_1 : scalarField Try.prog 31 1 = true := by kernel_rfl
theorem fld_31_2 : fieldAt Try.prog 31 2 = true := by kernel_rfl
theorem sfld_31_2 : scalarField Try.prog 31 2 = true := by kernel_rfl
theorem fld_31_3 : fieldAt Try.prog 31 3 = true := by kernel_rfl
theorem sfld_31_3 : scalarField Try.prog 31 3 = true := by kernel_rfl
theorem fld_31_4 : fieldAt Try.prog 31 4 = true := by kernel_rfl
theorem sfld_31_4 : scalarField Try.prog 31 4 = true := by kernel_rfl
theorem fld_31_5 : fieldAt Try.prog 31 5 = true := by kernel_rfl
theorem sfld_31_5 : scalarField Try.prog 31 5 = true := by kernel_rfl
theorem fld_31_6 : fieldAt Try.prog 31 6 = true := by kernel_rfl
theorem sfld_31_6 : scalarField Try.prog 31 6 = true := by kernel_rfl
theorem zero_31 : zeroV Try.prog 31 = some (.agg [.str [], .int .i64 0, .int .i64 0, .int .i64 0, .nils 4, .nils 2, .int .i64 0]) := by kernel_rfl
theorem cells_38 : Try.prog.cellsOf 38 = 1 := by kernel_rfl
theorem bytes_38 : Try.prog.bytesOf 38 = 24 := by kernel_rfl
theorem scal_38 : isScalarT Try.prog 38 = true := by kernel_rfl
theorem zero_38 : zeroV Try.prog 38 = some (.nils 1) := by kernel_rfl
theorem cells_40 : Try.prog.cellsOf 40 = 4 := by kernel_rfl
theorem bytes_40 : Try.prog.bytesOf 40 = 56 := by kernel_rfl
theorem str_40 : isStruct Try.prog 40 = true := by kernel_rfl
theorem ff_40 : fieldsFlat Try.prog 40 = true := by kernel_rfl
theorem fld_40_0 : fieldAt Try.prog 40 0 = true := by kernel_rfl
theorem sfld_40_0 : scalarField Try.prog 40 0 = true := by kernel_rfl
theorem fld_40_1 : fieldAt Try.prog 40 1 = true := by kernel_rfl
theorem sfld_40_1 : scalarField Try.prog 40 1 = true := by kernel_rfl
theorem fld_40_2 : fieldAt Try.prog 40 2 = true := by kernel_rfl
theorem sfld_40_2 : scalarField Try.prog 40 2 = true := by kernel_rfl
theorem fld_40_3 : fieldAt Try.prog 40 3 = true := by kernel_rfl
theorem sfld_40_3 : scalarField Try.prog 40 3 = true := by kernel_rfl
theorem zero_40 : zeroV Try.prog 40 = some (.agg [.str [], .int .i64 0, .nils 1, .int .i64 0]) := by kernel_rfl
theorem cells_49 : Try.prog.cellsOf 49 = 1 := by kernel_rfl
theorem bytes_49 : Try.prog.bytesOf 49 = 24 := by kernel_rfl
theorem scal_49 : isScalarT Try.prog 49 = true := by kernel_rfl
theorem zero_49 : zeroV Try.prog 49 = some (.nils 7) := by kernel_rfl
theorem cells_51 : Try.prog.cellsOf 51 = 2 := by kernel_rfl
theorem bytes_51 : Try.prog.bytesOf 51 = 32 := by kernel_rfl
theorem str_51 : isStruct Try.prog 51 = true := by kernel_rfl
theorem ff_51 : fieldsFlat Try.prog 51 = true := by kernel_rfl
theorem fld_51_0 : fieldAt Try.prog 51 0 = true := by kernel_rfl
theorem sfld_51_0 : scalarField Try.prog 51 0 = true := by kernel_rfl
theorem fld_51_1 : fieldAt Try.prog 51 1 = true := by kernel_rfl
theorem sfld_51_1 : scalarField Try.prog 51 1 = true := by kernel_rfl
theorem zero_51 : zeroV Try.prog 51 = some (.agg [.nils 7, .int .i64 0]) := by kernel_rfl
theorem cells_54 : Try.prog.cellsOf 54 = 1 := by kernel_rfl
theorem bytes_54 : Try.prog.bytesOf 54 = 24 := by kernel_rfl
theorem scal_54 : isScalarT Try.prog 54 = true := by kernel_rfl
theorem zero_54 : zeroV Try.prog 54 = some (.nils 7) := by kernel_rfl
theorem cells_56 : Try.prog.cellsOf 56 = 2 := by kernel_rfl
theorem bytes_56 : Try.prog.bytesOf 56 = 32 := by kernel_rfl
theorem str_56 : isStruct Try.prog 56 = true := by kernel_rfl
theorem ff_56 : fieldsFlat Try.prog 56 = true := by kernel_rfl
theorem fld_56_0 : fieldAt Try.prog 56 0 = true := by kernel_rfl
theorem sfld_56_0 : scalarField Try.prog 56 0 = true := by kernel_rfl
theorem fld_56_1 : fieldAt Try.prog 56 1 = true := by kernel_rfl
theorem sfld_56_1 : scalarField Try.prog 56 1 = true := by kernel_rfl
theorem zero_56 : zeroV Try.prog 56 = some (.agg [.nils 7, .int .i64 0]) := by kernel_rfl
theorem cells_76 : Try.prog.cellsOf 76 = 4 := by kernel_rfl
theorem bytes_76 : Try.prog.bytesOf 76 = 40 := by kernel_rfl
theorem str_76 : isStruct Try.prog 76 = true := by kernel_rfl
theorem ff_76 : fieldsFlat Try.prog 76 = true := by kernel_rfl
theorem fld_76_0 : fieldAt Try.prog 76 0 = true := by kernel_rfl
theorem sfld_76_0 : scalarField Try.prog 76 0 = true := by kernel_rfl
theorem fld_76_1 : fieldAt Try.prog 76 1 = true := by kernel_rfl
theorem sfld_76_1 : scalarField Try.prog 76 1 = true := by kernel_rfl
theorem fld_76_2 : fieldAt Try.prog 76 2 = true := by kernel_rfl
theorem sfld_76_2 : scalarField Try.prog 76 2 = true := by kernel_rfl
theorem fld_76_3 : fieldAt Try.prog 76 3 = true := by kernel_rfl
theorem sfld_76_3 : scalarField Try.prog 76 3 = true := by kernel_rfl
theorem zero_76 : zeroV Try.prog 76 = some (.agg [.int .i64 0, .int .i64 0, .int .i64 0, .str []]) := by kernel_rfl
theorem cells_90 : Try.prog.cellsOf 90 = 2 := by kernel_rfl
theorem bytes_90 : Try.prog.bytesOf 90 = 16 := by kernel_rfl
theorem str_90 : isStruct Try.prog 90 = true := by kernel_rfl
theorem ff_90 : fieldsFlat Try.prog 90 = true := by kernel_rfl
theorem fld_90_0 : fieldAt Try.prog 90 0 = true := by kernel_rfl
theorem sfld_90_0 : scalarField Try.prog 90 0 = true := by kernel_rfl
theorem fld_90_1 : fieldAt Try.prog 90 1 = true := by kernel_rfl
theorem sfld_90_1 : scalarField Try.prog 90 1 = true := by kernel_rfl
theorem zero_90 : zeroV Try.prog 90 = some (.agg [.int .i64 0, .int .i64 0]) := by kernel_rfl
theorem cells_104 : Try.prog.cellsOf 104 = 4 := by kernel_rfl
theorem bytes_104 : Try.prog.bytesOf 104 = 40 := by kernel_rfl
theorem str_104 : isStruct Try.prog 104 = true := by kernel_rfl
theorem ff_104 : fieldsFlat Try.prog 104 = true := by kernel_rfl
theorem fld_104_0 : fieldAt Try.prog 104 0 = true := by kernel_rfl
theorem sfld_104_0 : scalarField Try.prog 104 0 = true := by kernel_rfl
theorem fld_104_1 : fieldAt Try.prog 104 1 = true := by kernel_rfl
theorem sfld_104_1 : scalarField Try.prog 104 1 = true := by kernel_rfl
theorem fld_104_2 : fieldAt Try.prog 104 2 = true := by kernel_rfl
theorem sfld_104_2 : scalarField Try.prog 104 2 = true := by kernel_rfl
theorem fld_104_3 : fieldAt Try.prog 104 3 = true := by kernel_rfl
theorem sfld_104_3 : scalarField Try.prog 104 3 = true := by kernel_rfl
theorem zero_104 : zeroV Try.prog 104 = some (.agg [.int .i64 0, .int .i64 0, .int .i64 0, .str []]) := by kernel_rfl
theorem cells_107 : Try.prog.cellsOf 107 = 2 := by kernel_rfl
theorem bytes_107 : Try.prog.bytesOf 107 = 16 := by kernel_rfl
theorem str_107 : isStruct Try.prog 107 = true := by kernel_rfl
theorem ff_107 : fieldsFlat Try.prog 107 = true := by kernel_rfl
theorem fld_107_0 : fieldAt Try.prog 107 0 = true := by kernel_rfl
theorem sfld_107_0 : scalarField Try.prog 107 0 = true := by kernel_rfl
theorem fld_107_1 : fieldAt Try.prog 107 1 = true := by kernel_rfl
theorem sfld_107_1 : scalarField Try.prog 107 1 = true := by kernel_rfl
theorem zero_107 : zeroV Try.prog 107 = some (.agg [.int .i64 0, .int .i64 0]) := by kernel_rfl
theorem cells_109 : Try.prog.cellsOf 109 = 1 := by kernel_rfl
theorem bytes_109 : Try.prog.bytesOf 109 = 24 := by kernel_rfl
theorem scal_109 : isScalarT Try.prog 109 = true := by kernel_rfl
theorem zero_109 : zeroV Try.prog 109 = some (.nils 1) := by kernel_rfl
theorem cells_127 : Try.prog.cellsOf 127 = 1 := by kernel_rfl
theorem bytes_127 : Try.prog.bytesOf 127 = 1 := by kernel_rfl
theorem scal_127 : isScalarT Try.prog 127 = true := by kernel_rfl
theorem zero_127 : zeroV Try.prog 127 = some (.int .u8 0) := by kernel_rfl
attribute [go_sem] Try.underlying2 Try.underlying3 Try.underlying4 Try.underlying5 Try.underlying6 Try.underlying8 Try.underlying9 Try.underlying10 Try.underlying11 Try.underlying12 Try.underlying14 Try.underlying19 Try.underlying22 Try.underlying23 Try.underlying25 Try.underlying27 Try.underlying29 Try.underlying31 Try.underlying38 Try.underlying40 Try.underlying49 Try.underlying51 Try.underlying54 Try.underlying56 Try.underlying76 Try.underlying90 Try.underlying104 Try.underlying107 Try.underlying109 Try.underlying127 cells_2 bytes_2 scal_2 zero_2 cells_3 bytes_3 scal_3 zero_3 cells_4 bytes_4 scal_4 zero_4 cells_5 bytes_5 scal_5 zero_5 cells_6 bytes_6 scal_6 zero_6 cells_8 bytes_8 str_8 ff_8 fld_8_0 fld_8_1 fld_8_2 fld_8_3 sfld_8_0 sfld_8_1 sfld_8_2 sfld_8_3 zero_8 cells_9 bytes_9 scal_9 zero_9 cells_10 bytes_10 scal_10 zero_10 cells_11 bytes_11 scal_11 zero_11 cells_12 bytes_12 scal_12 zero_12 cells_14 bytes_14 str_14 ff_14 fld_14_0 fld_14_1 sfld_14_0 sfld_14_1 zero_14 cells_19 bytes_19 str_19 ff_19 fld_19_0 sfld_19_0 cells_22 bytes_22 scal_22 zero_22 cells_23 bytes_23 scal_23 zero_23 cells_25 bytes_25 str_25 ff_25 fld_25_0 fld_25_1 fld_25_2 fld_25_3 fld_25_4 fld_25_5 fld_25_6 sfld_25_0 sfld_25_1 sfld_25_2 sfld_25_3 sfld_25_4 sfld_25_5 sfld_25_6 zero_25 cells_27 bytes_27 scal_27 zero_27 cells_29 bytes_29 scal_29 zero_29 cells_31 bytes_31 str_31 ff_31 fld_31_0 fld_31_1 fld_31_2 fld_31_3 fld_31_4 fld_31_5 fld_31_6 sfld_31_0 sfld_31_1 sfld_31_2 sfld_31_3 sfld_31_4 sfld_31_5 sfld_31_6 zero_31 cells_38 bytes_38 scal_38 zero_38 cells_40 bytes_40 str_40 ff_40 fld_40_0 fld_40_1 fld_40_2 fld_40_3 sfld_40_0 sfld_40_1 sfld_40_2 sfld_40_3 zero_40 cells_49 bytes_49 scal_49 zero_49 cells_51 bytes_51 str_51 ff_51 fld_51_0 fld_51_1 sfld_51_0 sfld_51_1 zero_51 cells_54 bytes_54 scal_54 zero_54 cells_56 bytes_56 str_56 ff_56 fld_56_0 fld_56_1 sfld_56_0 sfld_56_1 zero_56 cells_76 bytes_76 str_76 ff_76 fld_76_0 fld_76_1 fld_76_2 fld_76_3 sfld_76_0 sfld_76_1 sfld_76_2 sfld_76_3 zero_76 cells_90 bytes_90 str_90 ff_90 fld_90_0 fld_90_1 sfld_90_0 sfld_90_1 zero_90 cells_104 bytes_104 str_104 ff_104 fld_104_0 fld_104_1 fld_104_2 fld_104_3 sfld_104_0 sfld_104_1 sfld_104_2 sfld_104_3 zero_104 cells_107 bytes_107 str_107 ff_107 fld_107_0 fld_107_1 sfld_107_0 sfld_107_1 zero_107 cells_109 bytes_109 scal_109 zero_109 cells_127 bytes_127 scal_127 zero_127
end Go.Proofs.Ytnledgcplgdpmaa.Ty
