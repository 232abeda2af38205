/- Facts on the types of the program, each looked up in it. -/
import Derived.Test.YtgkjjgmjlldfmaaVmSet
import Derived.Test.YtgkjjgmjlldfmaaProg
import Derived.KernelRfl
namespace Go.Proofs.Ytgkjjgmjlldfmaa.Ty
open Go Go.VM
set_option maxRecDepth 100000
theorem cells_2 : Try.prog.cellsOf 2 = 1 := by kernel_rfl
theorem bytes_2 : Try.prog.bytesOf 2 = 8 := by kernel_rfl
theorem scal_2 : isScalarT Try.prog 2 = true := by kernel_rfl
theorem zero_2 : zeroV Try.prog 2 = some (.int .i64 0) := by kernel_rfl
theorem cells_3 : Try.prog.cellsOf 3 = 1 := by kernel_rfl
theorem bytes_3 : Try.prog.bytesOf 3 = 8 := by kernel_rfl
theorem scal_3 : isScalarT Try.prog 3 = true := by kernel_rfl
theorem zero_3 : zeroV Try.prog 3 = some (.int .i64 0) := by kernel_rfl
theorem cells_4 : Try.prog.cellsOf 4 = 1 := by kernel_rfl
theorem bytes_4 : Try.prog.bytesOf 4 = 1 := by kernel_rfl
theorem scal_4 : isScalarT Try.prog 4 = true := by kernel_rfl
theorem zero_4 : zeroV Try.prog 4 = some (.bool false) := by kernel_rfl
theorem cells_5 : Try.prog.cellsOf 5 = 1 := by kernel_rfl
theorem bytes_5 : Try.prog.bytesOf 5 = 1 := by kernel_rfl
theorem scal_5 : isScalarT Try.prog 5 = true := by kernel_rfl
theorem zero_5 : zeroV Try.prog 5 = some (.int .u8 0) := by kernel_rfl
theorem cells_6 : Try.prog.cellsOf 6 = 1 := by kernel_rfl
theorem bytes_6 : Try.prog.bytesOf 6 = 1 := by kernel_rfl
theorem scal_6 : isScalarT Try.prog 6 = true := by kernel_rfl
theorem zero_6 : zeroV Try.prog 6 = some (.int .u8 0) := by kernel_rfl
theorem cells_8 : Try.prog.cellsOf 8 = 4 := by kernel_rfl
theorem bytes_8 : Try.prog.bytesOf 8 = 24 := by kernel_rfl
theorem str_8 : isStruct Try.prog 8 = true := by kernel_rfl
theorem ff_8 : fieldsFlat Try.prog 8 = true := by kernel_rfl
theorem fld_8_0 : fieldAt Try.prog 8 0 = true := by kernel_rfl
theorem sfld_8_0 : scalarField Try.prog 8 0 = true := by kernel_rfl
theorem fld_8_1 : fieldAt Try.prog 8 1 = true := by kernel_rfl
theorem sfld_8_1 : scalarField Try.prog 8 1 = true := by kernel_rfl
theorem fld_8_2 : fieldAt Try.prog 8 2 = true := by kernel_rfl
theorem sfld_8_2 : scalarField Try.prog 8 2 = true := by kernel_rfl
theorem fld_8_3 : fieldAt Try.prog 8 3 = true := by kernel_rfl
theorem sfld_8_3 : scalarField Try.prog 8 3 = true := by kernel_rfl
theorem zero_8 : zeroV Try.prog 8 = some (.agg [.int .i64 0, .int .i64 0, .bool false, .int .u8 0]) := by kernel_rfl
theorem cells_9 : Try.prog.cellsOf 9 = 1 := by kernel_rfl
theorem bytes_9 : Try.prog.bytesOf 9 = 16 := by kernel_rfl
theorem scal_9 : isScalarT Try.prog 9 = true := by kernel_rfl
theorem zero_9 : zeroV Try.prog 9 = some (.str []) := by kernel_rfl
theorem cells_10 : Try.prog.cellsOf 10 = 1 := by kernel_rfl
theorem bytes_10 : Try.prog.bytesOf 10 = 16 := by kernel_rfl
theorem scal_10 : isScalarT Try.prog 10 = true := by kernel_rfl
theorem zero_10 : zeroV Try.prog 10 = some (.str []) := by kernel_rfl
theorem cells_11 : Try.prog.cellsOf 11 = 1 := by kernel_rfl
theorem bytes_11 : Try.prog.bytesOf 11 = 16 := by kernel_rfl
theorem scal_11 : isScalarT Try.prog 11 = true := by kernel_rfl
theorem zero_11 : zeroV Try.prog 11 = some (.str []) := by kernel_rfl
theorem cells_12 : Try.prog.cellsOf 12 = 1 := by kernel_rfl
theorem bytes_12 : Try.prog.bytesOf 12 = 8 := by kernel_rfl
theorem scal_12 : isScalarT Try.prog 12 = true := by kernel_rfl
theorem zero_12 : zeroV Try.prog 12 = some (.int .u64 0) := by kernel_rfl
theorem cells_14 : Try.prog.cellsOf 14 = 2 := by kernel_rfl
theorem bytes_14 : Try.prog.bytesOf 14 = 24 := by kernel_rfl
theorem str_14 : isStruct Try.prog 14 = true := by kernel_rfl
theorem ff_14 : fieldsFlat Try.prog 14 = true := by kernel_rfl
theorem fld_14_0 : fieldAt Try.prog 14 0 = true := by kernel_rfl
theorem sfld_14_0 : scalarField Try.prog 14 0 = true := by kernel_rfl
theorem fld_14_1 : fieldAt Try.prog 14 1 = true := by kernel_rfl
theorem sfld_14_1 : scalarField Try.prog 14 1 = true := by kernel_rfl
theorem zero_14 : zeroV Try.prog 14 = some (.agg [.str [], .int .u64 0]) := by kernel_rfl
theorem cells_19 : Try.prog.cellsOf 19 = 1 := by kernel_rfl
theorem bytes_19 : Try.prog.bytesOf 19 = 8 := by kernel_rfl
theorem str_19 : isStruct Try.prog 19 = true := by kernel_rfl
theorem ff_19 : fieldsFlat Try.prog 19 = true := by kernel_rfl
theorem fld_19_0 : fieldAt Try.prog 19 0 = true := by kernel_rfl
theorem sfld_19_0 : scalarField Try.prog 19 0 = true := by kernel_rfl
theorem cells_22 : Try.prog.cellsOf 22 = 1 := by kernel_rfl
theorem bytes_22 : Try.prog.bytesOf 22 = 24 := by kernel_rfl
theorem scal_22 : isScalarT Try.prog 22 = true := by kernel_rfl
theorem zero_22 : zeroV Try.prog 22 = some (.nils 7) := by kernel_rfl
theorem cells_24 : Try.prog.cellsOf 24 = 2 := by kernel_rfl
theorem bytes_24 : Try.prog.bytesOf 24 = 32 := by kernel_rfl
theorem str_24 : isStruct Try.prog 24 = true := by kernel_rfl
theorem ff_24 : fieldsFlat Try.prog 24 = true := by kernel_rfl
theorem fld_24_0 : fieldAt Try.prog 24 0 = true := by kernel_rfl
theorem sfld_24_0 : scalarField Try.prog 24 0 = true := by kernel_rfl
theorem fld_24_1 : fieldAt Try.prog 24 1 = true := by kernel_rfl
theorem sfld_24_1 : scalarField Try.prog 24 1 = true := by kernel_rfl
theorem zero_24 : zeroV Try.prog 24 = some (.agg [.nils 7, .int .i64 0]) := by kernel_rfl
theorem cells_26 : Try.prog.cellsOf 26 = 1 := by kernel_rfl
theorem bytes_26 : Try.prog.bytesOf 26 = 24 := by kernel_rfl
theorem scal_26 : isScalarT Try.prog 26 = true := by kernel_rfl
theorem zero_26 : zeroV Try.prog 26 = some (.nils 4) := by kernel_rfl
theorem cells_27 : Try.prog.cellsOf 27 = 1 := by kernel_rfl
theorem bytes_27 : Try.prog.bytesOf 27 = 24 := by kernel_rfl
theorem scal_27 : isScalarT Try.prog 27 = true := by kernel_rfl
theorem zero_27 : zeroV Try.prog 27 = some (.nils 2) := by kernel_rfl
theorem cells_29 : Try.prog.cellsOf 29 = 7 := by kernel_rfl
theorem bytes_29 : Try.prog.bytesOf 29 = 96 := by kernel_rfl
theorem str_29 : isStruct Try.prog 29 = true := by kernel_rfl
theorem ff_29 : fieldsFlat Try.prog 29 = true := by kernel_rfl
theorem fld_29_0 : fieldAt Try.prog 29 0 = true := by kernel_rfl
theorem sfld_29_0 : scalarField Try.prog 29 0 = true := by kernel_rfl
theorem fld_29_1 : fieldAt Try.prog 29 1 = true := by kernel_rfl
theorem sfld_29_1 : scalarField Try.prog 29 1 = true := by kernel_rfl
theorem fld_29_2 : fieldAt Try.prog 29 2 = true := by kernel_rfl
theorem sfld_29_2 : scalarField Try.prog 29 2 = true := by kernel_rfl
theorem fld_29_3 : fieldAt Try.prog 29 3 = true := by kernel_rfl
theorem sfld_29_3 : scalarField Try.prog 29 3 = true := by kernel_rfl
theorem fld_29_4 : fieldAt Try.prog 29 4 = true := by kernel_rfl
theorem sfld_29_4 : scalarField Try.prog 29 4 = true := by kernel_rfl
theorem fld_29_5 : fieldAt Try.prog 29 5 = true := by kernel_rfl
theorem sfld_29_5 : scalarField Try.prog 29 5 = true := by kernel_rfl
theorem fld_29_6 : fieldAt Try.prog 29 6 = true := by kernel_rfl
theorem sfld_29_6 : scalarField Try.prog 29 6 = true := by kernel_rfl
theorem zero_29 : zeroV Try.prog 29 = some (.agg [.str [], .int .i64 0, .int .i64 0, .int .i64 0, .nils 4, .nils 2, .int .i64 0]) := by kernel_rfl
theorem cells_32 : Try.prog.cellsOf 32 = 1 := by kernel_rfl
theorem bytes_32 : Try.prog.bytesOf 32 = 24 := by kernel_rfl
theorem scal_32 : isScalarT Try.prog 32 = true := by kernel_rfl
theorem zero_32 : zeroV Try.prog 32 = some (.nils 7) := by kernel_rfl
theorem cells_34 : Try.prog.cellsOf 34 = 2 := by kernel_rfl
theorem bytes_34 : Try.prog.bytesOf 34 = 32 := by kernel_rfl
theorem str_34 : isStruct Try.prog 34 = true := by kernel_rfl
theorem ff_34 : fieldsFlat Try.prog 34 = true := by kernel_rfl
theorem fld_34_0 : fieldAt Try.prog 34 0 = true := by kernel_rfl
theorem sfld_34_0 : scalarField Try.prog 34 0 = true := by kernel_rfl
theorem fld_34_1 : fieldAt Try.prog 34 1 = true := by kernel_rfl
theorem sfld_34_1 : scalarField Try.prog 34 1 = true := by kernel_rfl
theorem zero_34 : zeroV Try.prog 34 = some (.agg [.nils 7, .int .i64 0]) := by kernel_rfl
theorem cells_43 : Try.prog.cellsOf 43 = 1 := by kernel_rfl
theorem bytes_43 : Try.prog.bytesOf 43 = 24 := by kernel_rfl
theorem scal_43 : isScalarT Try.prog 43 = true := by kernel_rfl
theorem zero_43 : zeroV Try.prog 43 = some (.nils 4) := by kernel_rfl
theorem cells_44 : Try.prog.cellsOf 44 = 1 := by kernel_rfl
theorem bytes_44 : Try.prog.bytesOf 44 = 24 := by kernel_rfl
theorem scal_44 : isScalarT Try.prog 44 = true := by kernel_rfl
theorem zero_44 : zeroV Try.prog 44 = some (.nils 2) := by kernel_rfl
theorem cells_46 : Try.prog.cellsOf 46 = 7 := by kernel_rfl
theorem bytes_46 : Try.prog.bytesOf 46 = 96 := by kernel_rfl
theorem str_46 : isStruct Try.prog 46 = true := by kernel_rfl
theorem ff_46 : fieldsFlat Try.prog 46 = true := by kernel_rfl
theorem fld_46_0 : fieldAt Try.prog 46 0 = true := by kernel_rfl
theorem sfld_46_0 : scalarField Try.prog 46 0 = true := by kernel_rfl
theorem fld_46_1 : fieldAt Try.prog 46 1 = true := by kernel_rfl
theorem sfld_46_1 : scalarField Try.prog 46 1 = true := by kernel_rfl
theorem fld_46_2 : fieldAt Try.prog 46 2 = true := by kernel_rfl
theorem sfld_46_2 : scalarField Try.prog 46 2 = true := by kernel_rfl
theorem fld_46_3 : fieldAt Try.prog 46 3 = true := by kernel_rfl
theorem sfld_46_3 : scalarField Try.prog 46 3 = true := by kernel_rfl
theorem fld_46_4 : fieldAt Try.prog 46 4 = true := by kernel_rfl
theorem sfld_46_4 : scalarField Try.prog 46 4 = true := by kernel_rfl
theorem fld_46_5 : fieldAt Try.prog 46 5 = true := by kernel_rfl
theorem sfld_46_5 : scalarField Try.prog 46 5 = true := by kernel_rfl
theorem fld_46_6 : fieldAt Try.prog 46 6 = true := by kernel_rfl
theorem sfld_46_6 : scalarField Try.prog 46 6 = true := by kernel_rfl
theorem zero_46 : zeroV Try.prog 46 = some (.agg [.str [], .int .i64 0, .int .i64 0, .int .i64 0, .nils 4, .nils 2, .int .i64 0]) := by kernel_rfl
theorem cells_71 : Try.prog.cellsOf 71 = 4 := by kernel_rfl
theorem bytes_71 : Try.prog.bytesOf 71 = 40 := by kernel_rfl
theorem str_71 : isStruct Try.prog 71 = true := by kernel_rfl
theorem ff_71 : fieldsFlat Try.prog 71 = true := by kernel_rfl
theorem fld_71_0 : fieldAt Try.prog 71 0 = true := by kernel_rfl
theorem sfld_71_0 : scalarField Try.prog 71 0 = true := by kernel_rfl
theorem fld_71_1 : fieldAt Try.prog 71 1 = true := by kernel_rfl
theorem sfld_71_1 : scalarField Try.prog 71 1 = true := by kernel_rfl
theorem fld_71_2 : fieldAt Try.prog 71 2 = true := by kernel_rfl
theorem sfld_71_2 : scalarField Try.prog 71 2 = true := by kernel_rfl
theorem fld_71_3 : fieldAt Try.prog 71 3 = true := by kernel_rfl
theorem sfld_71_3 : scalarField Try.prog 71 3 = true := by kernel_rfl
theorem zero_71 : zeroV Try.prog 71 = some (.agg [.int .i64 0, .int .i64 0, .int .i64 0, .str []]) := by kernel_rfl
theorem cells_74 : Try.prog.cellsOf 74 = 2 := by kernel_rfl
theorem bytes_74 : Try.prog.bytesOf 74 = 16 := by kernel_rfl
theorem str_74 : isStruct Try.prog 74 = true := by kernel_rfl
theorem ff_74 : fieldsFlat Try.prog 74 = true := by kernel_rfl
theorem fld_74_0 : fieldAt Try.prog 74 0 = true := by kernel_rfl
theorem sfld_74_0 : scalarField Try.prog 74 0 = true := by kernel_rfl
theorem fld_74_1 : fieldAt Try.prog 74 1 = true := by kernel_rfl
theorem sfld_74_1 : scalarField Try.prog 74 1 = true := by kernel_rfl
theorem zero_74 : zeroV Try.prog 74 = some (.agg [.int .i64 0, .int .i64 0]) := by kernel_rfl
theorem cells_77 : Try.prog.cellsOf 77 = 4 := by kernel_rfl
theorem bytes_77 : Try.prog.bytesOf 77 = 40 := by kernel_rfl
theorem str_77 : isStruct Try.prog 77 = true := by kernel_rfl
theorem ff_77 : fieldsFlat Try.prog 77 = true := by kernel_rfl
theorem fld_77_0 : fieldAt Try.prog 77 0 = true := by kernel_rfl
theorem sfld_77_0 : scalarField Try.prog 77 0 = true := by kernel_rfl
theorem fld_77_1 : fieldAt Try.prog 77 1 = true := by kernel_rfl
theorem sfld_77_1 : scalarField Try.prog 77 1 = true := by kernel_rfl
theorem fld_77_2 : fieldAt Try.prog 77 2 = true := by kernel_rfl
theorem sfld_77_2 : scalarField Try.prog 77 2 = true := by kernel_rfl
theorem fld_77_3 : fieldAt Try.prog 77 3 = true := by kernel_rfl
theorem sfld_77_3 : scalarField Try.prog 77 3 = true := by kernel_rfl
theorem zero_77 : zeroV Try.prog 77 = some (.agg [.int .i64 0, .int .i64 0, .int .i64 0, .str []]) := by kernel_rfl
theorem cells_80 : Try.prog.cellsOf 80 = 2 := by kernel_rfl
theorem bytes_80 : Try.prog.bytesOf 80 = 16 := by kernel_rfl
theorem str_80 : isStruct Try.prog 80 = true := by kernel_rfl
theorem ff_80 : fieldsFlat Try.prog 80 = true := by kernel_rfl
theorem fld_80_0 : fieldAt Try.prog 80 0 = true := by kernel_rfl
theorem sfld_80_0 : scalarField Try.prog 80 0 = true := by kernel_rfl
theorem fld_80_1 : fieldAt Try.prog 80 1 = true := by kernel_rfl
theorem sfld_80_1 : scalarField Try.prog 80 1 = true := by kernel_rfl
theorem zero_80 : zeroV Try.prog 80 = some (.agg [.int .i64 0, .int .i64 0]) := by kernel_rfl
theorem cells_81 : Try.prog.cellsOf 81 = 1 := by kernel_rfl
theorem bytes_81 : Try.prog.bytesOf 81 = 24 := by kernel_rfl
theorem scal_81 : isScalarT Try.prog 81 = true := by kernel_rfl
theorem zero_81 : zeroV Try.prog 81 = some (.nils 1) := by kernel_rfl
theorem cells_101 : Try.prog.cellsOf 101 = 1 := by kernel_rfl
theorem bytes_101 : Try.prog.bytesOf 101 = 1 := by kernel_rfl
theorem scal_101 : isScalarT Try.prog 101 = true := by kernel_rfl
theorem zero_101 : zeroV Try.prog 101 = some (.int .u8 0) := by kernel_rfl
attribute [go_sem] Try.underlying2 Try.underlying3 Try.underlying4 Try.underlying5 Try.underlying6 Try.underlying8 Try.underlying9 Try.underlying10 Try.underlying11 Try.underlying12 Try.underlying14 Try.underlying19 Try.underlying22 Try.underlying24 Try.underlying26 Try.underlying27 Try.underlying29 Try.underlying32 Try.underlying34 Try.underlying43 Try.underlying44 Try.underlying46 Try.underlying71 Try.underlying74 Try.underlying77 Try.underlying80 Try.underlying81 Try.underlying101 cells_2 bytes_2 scal_2 zero_2 cells_3 bytes_3 scal_3 zero_3 cells_4 bytes_4 scal_4 zero_4 cells_5 bytes_5 scal_5 zero_5 cells_6 bytes_6 scal_6 zero_6 cells_8 bytes_8 str_8 ff_8 fld_8_0 fld_8_1 fld_8_2 fld_8_3 sfld_8_0 sfld_8_1 sfld_8_2 sfld_8_3 zero_8 cells_9 bytes_9 scal_9 zero_9 cells_10 bytes_10 scal_10 zero_10 cells_11 bytes_11 scal_11 zero_11 cells_12 bytes_12 scal_12 zero_12 cells_14 bytes_14 str_14 ff_14 fld_14_0 fld_14_1 sfld_14_0 sfld_14_1 zero_14 cells_19 bytes_19 str_19 ff_19 fld_19_0 sfld_19_0 cells_22 bytes_22 scal_22 zero_22 cells_24 bytes_24 str_24 ff_24 fld_24_0 fld_24_1 sfld_24_0 sfld_24_1 zero_24 cells_26 bytes_26 scal_26 zero_26 cells_27 bytes_27 scal_27 zero_27 cells_29 bytes_29 str_29 ff_29 fld_29_0 fld_29_1 fld_29_2 fld_29_3 fld_29_4 fld_29_5 fld_29_6 sfld_29_0 sfld_29_1 sfld_29_2 sfld_29_3 sfld_29_4 sfld_29_5 sfld_29_6 zero_29 cells_32 bytes_32 scal_32 zero_32 cells_34 bytes_34 str_34 ff_34 fld_34_0 fld_34_1 sfld_34_0 sfld_34_1 zero_34 cells_43 bytes_43 scal_43 zero_43 cells_44 bytes_44 scal_44 zero_44 cells_46 bytes_46 str_46 ff_46 fld_46_0 fld_46_1 fld_46_2 fld_46_3 fld_46_4 fld_46_5 fld_46_6 sfld_46_0 sfld_46_1 sfld_46_2 sfld_46_3 sfld_46_4 sfld_46_5 sfld_46_6 zero_46 cells_71 bytes_71 str_71 ff_71 fld_71_0 fld_71_1 fld_71_2 fld_71_3 sfld_71_0 sfld_71_1 sfld_71_2 sfld_71_3 zero_71 cells_74 bytes_74 str_74 ff_74 fld_74_0 fld_74_1 sfld_74_0 sfld_74_1 zero_74 cells_77 bytes_77 str_77 ff_77 fld_77_0 fld_77_1 fld_77_2 fld_77_3 sfld_77_0 sfld_77_1 sfld_77_2 sfld_77_3 zero_77 cells_80 bytes_80 str_80 ff_80 fld_80_0 fld_80_1 sfld_80_0 sfld_80_1 zero_80 cells_81 bytes_81 scal_81 zero_81 cells_101 bytes_101 scal_101 zero_101
end Go.Proofs.Ytgkjjgmjlldfmaa.Ty
