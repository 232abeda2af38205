/- Facts on the types of the program, each looked up in it. -/
import Derived.Test.YtghmjnggmacohaaDoorVmSet
import Derived.Test.YtghmjnggmacohaaDoorProg
import Derived.KernelRfl
namespace Go.Proofs.YtghmjnggmacohaaDoor.Ty
open Go Go.VM
set_option maxRecDepth 100000
theorem cells_3 : Tryd.prog.cellsOf 3 = 1 := by kernel_rfl
theorem bytes_3 : Tryd.prog.bytesOf 3 = 8 := by kernel_rfl
theorem scal_3 : isScalarT Tryd.prog 3 = true := by kernel_rfl
theorem zero_3 : zeroV Tryd.prog 3 = some (.int .i64 0) := by kernel_rfl
theorem cells_4 : Tryd.prog.cellsOf 4 = 1 := by kernel_rfl
theorem bytes_4 : Tryd.prog.bytesOf 4 = 1 := by kernel_rfl
theorem scal_4 : isScalarT Tryd.prog 4 = true := by kernel_rfl
theorem zero_4 : zeroV Tryd.prog 4 = some (.bool false) := by kernel_rfl
theorem cells_5 : Tryd.prog.cellsOf 5 = 1 := by kernel_rfl
theorem bytes_5 : Tryd.prog.bytesOf 5 = 1 := by kernel_rfl
theorem scal_5 : isScalarT Tryd.prog 5 = true := by kernel_rfl
theorem zero_5 : zeroV Tryd.prog 5 = some (.int .u8 0) := by kernel_rfl
theorem cells_9 : Tryd.prog.cellsOf 9 = 1 := by kernel_rfl
theorem bytes_9 : Tryd.prog.bytesOf 9 = 16 := by kernel_rfl
theorem scal_9 : isScalarT Tryd.prog 9 = true := by kernel_rfl
theorem zero_9 : zeroV Tryd.prog 9 = some (.str []) := by kernel_rfl
theorem cells_21 : Tryd.prog.cellsOf 21 = 1 := by kernel_rfl
theorem bytes_21 : Tryd.prog.bytesOf 21 = 4 := by kernel_rfl
theorem scal_21 : isScalarT Tryd.prog 21 = true := by kernel_rfl
theorem zero_21 : zeroV Tryd.prog 21 = some (.int .i32 0) := by kernel_rfl
theorem cells_22 : Tryd.prog.cellsOf 22 = 1 := by kernel_rfl
theorem bytes_22 : Tryd.prog.bytesOf 22 = 24 := by kernel_rfl
theorem scal_22 : isScalarT Tryd.prog 22 = true := by kernel_rfl
theorem zero_22 : zeroV Tryd.prog 22 = some (.nils 4) := by kernel_rfl
theorem cells_23 : Tryd.prog.cellsOf 23 = 1 := by kernel_rfl
theorem bytes_23 : Tryd.prog.bytesOf 23 = 24 := by kernel_rfl
theorem scal_23 : isScalarT Tryd.prog 23 = true := by kernel_rfl
theorem zero_23 : zeroV Tryd.prog 23 = some (.nils 2) := by kernel_rfl
theorem cells_25 : Tryd.prog.cellsOf 25 = 7 := by kernel_rfl
theorem bytes_25 : Tryd.prog.bytesOf 25 = 96 := by kernel_rfl
theorem str_25 : isStruct Tryd.prog 25 = true := by kernel_rfl
theorem ff_25 : fieldsFlat Tryd.prog 25 = true := by kernel_rfl
theorem fld_25_0 : fieldAt Tryd.prog 25 0 = true := by kernel_rfl
theorem sfld_25_0 : scalarField Tryd.prog 25 0 = true := by kernel_rfl
theorem fld_25_1 : fieldAt Tryd.prog 25 1 = true := by kernel_rfl
theorem sfld_25_1 : scalarField Tryd.prog 25 1 = true := by kernel_rfl
theorem fld_25_2 : fieldAt Tryd.prog 25 2 = true := by kernel_rfl
theorem sfld_25_2 : scalarField Tryd.prog 25 2 = true := by kernel_rfl
theorem fld_25_3 : fieldAt Tryd.prog 25 3 = true := by kernel_rfl
theorem sfld_25_3 : scalarField Tryd.prog 25 3 = true := by kernel_rfl
theorem fld_25_4 : fieldAt Tryd.prog 25 4 = true := by kernel_rfl
theorem sfld_25_4 : scalarField Tryd.prog 25 4 = true := by kernel_rfl
theorem fld_25_5 : fieldAt Tryd.prog 25 5 = true := by kernel_rfl
theorem sfld_25_5 : scalarField Tryd.prog 25 5 = true := by kernel_rfl
theorem fld_25_6 : fieldAt Tryd.prog 25 6 = true := by kernel_rfl
theorem sfld_25_6 : scalarField Tryd.prog 25 6 = true := by kernel_rfl
theorem zero_25 : zeroV Tryd.prog 25 = some (.agg [.str [], .int .i64 0, .int .i64 0, .int .i64 0, .nils 4, .nils 2, .int .i64 0]) := by kernel_rfl
theorem cells_26 : Tryd.prog.cellsOf 26 = 1 := by kernel_rfl
theorem bytes_26 : Tryd.prog.bytesOf 26 = 24 := by kernel_rfl
theorem scal_26 : isScalarT Tryd.prog 26 = true := by kernel_rfl
theorem zero_26 : zeroV Tryd.prog 26 = some (.nils 2) := by kernel_rfl
theorem cells_29 : Tryd.prog.cellsOf 29 = 1 := by kernel_rfl
theorem bytes_29 : Tryd.prog.bytesOf 29 = 24 := by kernel_rfl
theorem scal_29 : isScalarT Tryd.prog 29 = true := by kernel_rfl
theorem zero_29 : zeroV Tryd.prog 29 = some (.nils 1) := by kernel_rfl
theorem cells_31 : Tryd.prog.cellsOf 31 = 1 := by kernel_rfl
theorem bytes_31 : Tryd.prog.bytesOf 31 = 24 := by kernel_rfl
theorem scal_31 : isScalarT Tryd.prog 31 = true := by kernel_rfl
theorem zero_31 : zeroV Tryd.prog 31 = some (.nils 4) := by kernel_rfl
theorem cells_32 : Tryd.prog.cellsOf 32 = 1 := by kernel_rfl
theorem bytes_32 : Tryd.prog.bytesOf 32 = 24 := by kernel_rfl
theorem scal_32 : isScalarT Tryd.prog 32 = true := by kernel_rfl
theorem zero_32 : zeroV Tryd.prog 32 = some (.nils 2) := by kernel_rfl
theorem cells_34 : Tryd.prog.cellsOf 34 = 7 := by kernel_rfl
theorem bytes_34 : Tryd.prog.bytesOf 34 = 96 := by kernel_rfl
theorem str_34 : isStruct Tryd.prog 34 = true := by kernel_rfl
theorem ff_34 : fieldsFlat Tryd.prog 34 = true := by kernel_rfl
theorem fld_34_0 : fieldAt Tryd.prog 34 0 = true := by kernel_rfl
theorem sfld_34_0 : scalarField Tryd.prog 34 0 = true := by kernel_rfl
theorem fld_34_1 : fieldAt Tryd.prog 34 1 = true := by kernel_rfl
theorem sfld_34_1 : scalarField Tryd.prog 34 1 = true := by kernel_rfl
theorem fld_34_2 : fieldAt Tryd.prog 34 2 = true := by kernel_rfl
theorem sfld_34_2 : scalarField Tryd.prog 34 2 = true := by kernel_rfl
theorem fld_34_3 : fieldAt Tryd.prog 34 3 = true := by kernel_rfl
theorem sfld_34_3 : scalarField Tryd.prog 34 3 = true := by kernel_rfl
theorem fld_34_4 : fieldAt Tryd.prog 34 4 = true := by kernel_rfl
theorem sfld_34_4 : scalarField Tryd.prog 34 4 = true := by kernel_rfl
theorem fld_34_5 : fieldAt Tryd.prog 34 5 = true := by kernel_rfl
theorem sfld_34_5 : scalarField Tryd.prog 34 5 = true := by kernel_rfl
theorem fld_34_6 : fieldAt Tryd.prog 34 6 = true := by kernel_rfl
theorem sfld_34_6 : scalarField Tryd.prog 34 6 = true := by kernel_rfl
theorem zero_34 : zeroV Tryd.prog 34 = some (.agg [.str [], .int .i64 0, .int .i64 0, .int .i64 0, .nils 4, .nils 2, .int .i64 0]) := by kernel_rfl
theorem cells_36 : Tryd.prog.cellsOf 36 = 1 := by kernel_rfl
theorem bytes_36 : Tryd.prog.bytesOf 36 = 24 := by kernel_rfl
theorem scal_36 : isScalarT Tryd.prog 36 = true := by kernel_rfl
theorem zero_36 : zeroV Tryd.prog 36 = some (.nils 2) := by kernel_rfl
theorem cells_47 : Tryd.prog.cellsOf 47 = 1 := by kernel_rfl
theorem bytes_47 : Tryd.prog.bytesOf 47 = 24 := by kernel_rfl
theorem scal_47 : isScalarT Tryd.prog 47 = true := by kernel_rfl
theorem zero_47 : zeroV Tryd.prog 47 = some (.nils 1) := by kernel_rfl
theorem cells_51 : Tryd.prog.cellsOf 51 = 4 := by kernel_rfl
theorem bytes_51 : Tryd.prog.bytesOf 51 = 40 := by kernel_rfl
theorem str_51 : isStruct Tryd.prog 51 = true := by kernel_rfl
theorem ff_51 : fieldsFlat Tryd.prog 51 = true := by kernel_rfl
theorem fld_51_0 : fieldAt Tryd.prog 51 0 = true := by kernel_rfl
theorem sfld_51_0 : scalarField Tryd.prog 51 0 = true := by kernel_rfl
theorem fld_51_1 : fieldAt Tryd.prog 51 1 = true := by kernel_rfl
theorem sfld_51_1 : scalarField Tryd.prog 51 1 = true := by kernel_rfl
theorem fld_51_2 : fieldAt Tryd.prog 51 2 = true := by kernel_rfl
theorem sfld_51_2 : scalarField Tryd.prog 51 2 = true := by kernel_rfl
theorem fld_51_3 : fieldAt Tryd.prog 51 3 = true := by kernel_rfl
theorem sfld_51_3 : scalarField Tryd.prog 51 3 = true := by kernel_rfl
theorem zero_51 : zeroV Tryd.prog 51 = some (.agg [.int .i64 0, .int .i64 0, .int .i64 0, .str []]) := by kernel_rfl
theorem cells_53 : Tryd.prog.cellsOf 53 = 1 := by kernel_rfl
theorem bytes_53 : Tryd.prog.bytesOf 53 = 24 := by kernel_rfl
theorem scal_53 : isScalarT Tryd.prog 53 = true := by kernel_rfl
theorem zero_53 : zeroV Tryd.prog 53 = some (.nils 1) := by kernel_rfl
theorem cells_57 : Tryd.prog.cellsOf 57 = 2 := by kernel_rfl
theorem bytes_57 : Tryd.prog.bytesOf 57 = 16 := by kernel_rfl
theorem str_57 : isStruct Tryd.prog 57 = true := by kernel_rfl
theorem ff_57 : fieldsFlat Tryd.prog 57 = true := by kernel_rfl
theorem fld_57_0 : fieldAt Tryd.prog 57 0 = true := by kernel_rfl
theorem sfld_57_0 : scalarField Tryd.prog 57 0 = true := by kernel_rfl
theorem fld_57_1 : fieldAt Tryd.prog 57 1 = true := by kernel_rfl
theorem sfld_57_1 : scalarField Tryd.prog 57 1 = true := by kernel_rfl
theorem zero_57 : zeroV Tryd.prog 57 = some (.agg [.int .i64 0, .int .i64 0]) := by kernel_rfl
theorem cells_59 : Tryd.prog.cellsOf 59 = 2 := by kernel_rfl
theorem bytes_59 : Tryd.prog.bytesOf 59 = 16 := by kernel_rfl
theorem str_59 : isStruct Tryd.prog 59 = true := by kernel_rfl
theorem ff_59 : fieldsFlat Tryd.prog 59 = true := by kernel_rfl
theorem fld_59_0 : fieldAt Tryd.prog 59 0 = true := by kernel_rfl
theorem sfld_59_0 : scalarField Tryd.prog 59 0 = true := by kernel_rfl
theorem fld_59_1 : fieldAt Tryd.prog 59 1 = true := by kernel_rfl
theorem sfld_59_1 : scalarField Tryd.prog 59 1 = true := by kernel_rfl
theorem zero_59 : zeroV Tryd.prog 59 = some (.agg [.int .i64 0, .int .i64 0]) := by kernel_rfl
theorem cells_71 : Tryd.prog.cellsOf 71 = 4 := by kernel_rfl
theorem bytes_71 : Tryd.prog.bytesOf 71 = 40 := by kernel_rfl
theorem str_71 : isStruct Tryd.prog 71 = true := by kernel_rfl
theorem ff_71 : fieldsFlat Tryd.prog 71 = true := by kernel_rfl
theorem fld_71_0 : fieldAt Tryd.prog 71 0 = true := by kernel_rfl
theorem sfld_71_0 : scalarField Tryd.prog 71 0 = true := by kernel_rfl
theorem fld_71_1 : fieldAt Tryd.prog 71 1 = true := by kernel_rfl
theorem sfld_71_1 : scalarField Tryd.prog 71 1 = true := by kernel_rfl
theorem fld_71_2 : fieldAt Tryd.prog 71 2 = true := by kernel_rfl
theorem sfld_71_2 : scalarField Tryd.prog 71 2 = true := by kernel_rfl
theorem fld_71_3 : fieldAt Tryd.prog 71 3 = true := by kernel_rfl
theorem sfld_71_3 : scalarField Tryd.prog 71 3 = true := by kernel_rfl
theorem zero_71 : zeroV Tryd.prog 71 = some (.agg [.int .i64 0, .int .i64 0, .int .i64 0, .str []]) := by kernel_rfl
theorem cells_76 : Tryd.prog.cellsOf 76 = 2 := by kernel_rfl
theorem bytes_76 : Tryd.prog.bytesOf 76 = 16 := by kernel_rfl
theorem str_76 : isStruct Tryd.prog 76 = true := by kernel_rfl
theorem ff_76 : fieldsFlat Tryd.prog 76 = true := by kernel_rfl
theorem fld_76_0 : fieldAt Tryd.prog 76 0 = true := by kernel_rfl
theorem sfld_76_0 : scalarField Tryd.prog 76 0 = true := by kernel_rfl
theorem fld_76_1 : fieldAt Tryd.prog 76 1 = true := by kernel_rfl
theorem sfld_76_1 : scalarField Tryd.prog 76 1 = true := by kernel_rfl
theorem zero_76 : zeroV Tryd.prog 76 = some (.agg [.int .i64 0, .int .i64 0]) := by kernel_rfl
theorem cells_83 : Tryd.prog.cellsOf 83 = 2 := by kernel_rfl
theorem bytes_83 : Tryd.prog.bytesOf 83 = 16 := by kernel_rfl
theorem str_83 : isStruct Tryd.prog 83 = true := by kernel_rfl
theorem ff_83 : fieldsFlat Tryd.prog 83 = true := by kernel_rfl
theorem fld_83_0 : fieldAt Tryd.prog 83 0 = true := by kernel_rfl
theorem sfld_83_0 : scalarField Tryd.prog 83 0 = true := by kernel_rfl
theorem fld_83_1 : fieldAt Tryd.prog 83 1 = true := by kernel_rfl
theorem sfld_83_1 : scalarField Tryd.prog 83 1 = true := by kernel_rfl
theorem zero_83 : zeroV Tryd.prog 83 = some (.agg [.int .i64 0, .int .i64 0]) := by kernel_rfl
theorem cells_91 : Tryd.prog.cellsOf 91 = 1 := by kernel_rfl
theorem bytes_91 : Tryd.prog.bytesOf 91 = 24 := by kernel_rfl
theorem scal_91 : isScalarT Tryd.prog 91 = true := by kernel_rfl
theorem zero_91 : zeroV Tryd.prog 91 = some (.nils 1) := by kernel_rfl
theorem cells_116 : Tryd.prog.cellsOf 116 = 1 := by kernel_rfl
theorem bytes_116 : Tryd.prog.bytesOf 116 = 8 := by kernel_rfl
theorem scal_116 : isScalarT Tryd.prog 116 = true := by kernel_rfl
theorem zero_116 : zeroV Tryd.prog 116 = some (.int .u64 0) := by kernel_rfl
theorem cells_119 : Tryd.prog.cellsOf 119 = 2 := by kernel_rfl
theorem bytes_119 : Tryd.prog.bytesOf 119 = 2 := by kernel_rfl
theorem str_119 : isStruct Tryd.prog 119 = true := by kernel_rfl
theorem ff_119 : fieldsFlat Tryd.prog 119 = true := by kernel_rfl
theorem fld_119_0 : fieldAt Tryd.prog 119 0 = true := by kernel_rfl
theorem sfld_119_0 : scalarField Tryd.prog 119 0 = true := by kernel_rfl
theorem fld_119_1 : fieldAt Tryd.prog 119 1 = true := by kernel_rfl
theorem sfld_119_1 : scalarField Tryd.prog 119 1 = true := by kernel_rfl
theorem zero_119 : zeroV Tryd.prog 119 = some (.agg [.int .u8 0, .int .u8 0]) := by kernel_rfl
theorem cells_122 : Tryd.prog.cellsOf 122 = 1 := by kernel_rfl
theorem bytes_122 : Tryd.prog.bytesOf 122 = 4 := by kernel_rfl
theorem scal_122 : isScalarT Tryd.prog 122 = true := by kernel_rfl
theorem zero_122 : zeroV Tryd.prog 122 = some (.int .u32 0) := by kernel_rfl
theorem mapT_60 : mapT Tryd.prog 60 = some (.int .i64 0) := by kernel_rfl
attribute [go_sem] mapT_60 Tryd.underlying3 Tryd.underlying4 Tryd.underlying5 Tryd.underlying9 Tryd.underlying21 Tryd.underlying22 Tryd.underlying23 Tryd.underlying25 Tryd.underlying26 Tryd.underlying29 Tryd.underlying31 Tryd.underlying32 Tryd.underlying34 Tryd.underlying36 Tryd.underlying47 Tryd.underlying51 Tryd.underlying53 Tryd.underlying57 Tryd.underlying59 Tryd.underlying71 Tryd.underlying76 Tryd.underlying83 Tryd.underlying91 Tryd.underlying116 Tryd.underlying119 Tryd.underlying122 cells_3 bytes_3 scal_3 zero_3 cells_4 bytes_4 scal_4 zero_4 cells_5 bytes_5 scal_5 zero_5 cells_9 bytes_9 scal_9 zero_9 cells_21 bytes_21 scal_21 zero_21 cells_22 bytes_22 scal_22 zero_22 cells_23 bytes_23 scal_23 zero_23 cells_25 bytes_25 str_25 ff_25 fld_25_0 fld_25_1 fld_25_2 fld_25_3 fld_25_4 fld_25_5 fld_25_6 sfld_25_0 sfld_25_1 sfld_25_2 sfld_25_3 sfld_25_4 sfld_25_5 sfld_25_6 zero_25 cells_26 bytes_26 scal_26 zero_26 cells_29 bytes_29 scal_29 zero_29 cells_31 bytes_31 scal_31 zero_31 cells_32 bytes_32 scal_32 zero_32 cells_34 bytes_34 str_34 ff_34 fld_34_0 fld_34_1 fld_34_2 fld_34_3 fld_34_4 fld_34_5 fld_34_6 sfld_34_0 sfld_34_1 sfld_34_2 sfld_34_3 sfld_34_4 sfld_34_5 sfld_34_6 zero_34 cells_36 bytes_36 scal_36 zero_36 cells_47 bytes_47 scal_47 zero_47 cells_51 bytes_51 str_51 ff_51 fld_51_0 fld_51_1 fld_51_2 fld_51_3 sfld_51_0 sfld_51_1 sfld_51_2 sfld_51_3 zero_51 cells_53 bytes_53 scal_53 zero_53 cells_57 bytes_57 str_57 ff_57 fld_57_0 fld_57_1 sfld_57_0 sfld_57_1 zero_57 cells_59 bytes_59 str_59 ff_59 fld_59_0 fld_59_1 sfld_59_0 sfld_59_1 zero_59 cells_71 bytes_71 str_71 ff_71 fld_71_0 fld_71_1 fld_71_2 fld_71_3 sfld_71_0 sfld_71_1 sfld_71_2 sfld_71_3 zero_71 cells_76 bytes_76 str_76 ff_76 fld_76_0 fld_76_1 sfld_76_0 sfld_76_1 zero_76 cells_83 bytes_83 str_83 ff_83 fld_83_0 fld_83_1 sfld_83_0 sfld_83_1 zero_83 cells_91 bytes_91 scal_91 zero_91 cells_116 bytes_116 scal_116 zero_116 cells_119 bytes_119 str_119 ff_119 fld_119_0 fld_119_1 sfld_119_0 sfld_119_1 zero_119 cells_122 bytes_122 scal_122 zero_122
end Go.Proofs.YtghmjnggmacohaaDoor.Ty
