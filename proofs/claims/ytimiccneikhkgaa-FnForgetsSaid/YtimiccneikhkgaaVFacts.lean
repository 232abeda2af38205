/- Facts on the types of the program, each looked up in it. -/
import Derived.Test.YtimiccneikhkgaaVmSet
import Derived.Test.YtimiccneikhkgaaProg
import Derived.KernelRfl
namespace Go.Proofs.Ytimiccneikhkgaa.Ty
open Go Go.VM
set_option maxRecDepth 100000
theorem cells_2 : Try.prog.cellsOf 2 = 1 := by kernel_rfl
theorem bytes_2 : Try.prog.bytesOf 2 = 8 := by kernel_rfl
theorem scal_2 : isScalarT Try.prog 2 = true := by kernel_rfl
theorem zero_2 : zeroV Try.prog 2 = some (.int .i64 0) := by kernel_rfl
theorem cells_3 : Try.prog.cellsOf 3 = 1 := by kernel_rfl
theorem bytes_3 : Try.prog.bytesOf 3 = 8 := by kernel_rfl
theorem scal_3 : isScalarT Try.prog 3 = true := by kernel_rfl
theorem zero_3 : zeroV Try.prog 3 = some (.int .i64 0) := by kernel_rfl
theorem cells_4 : Try.prog.cellsOf 4 = 1 := by kernel_rfl
theorem bytes_4 : Try.prog.bytesOf 4 = 1 := by kernel_rfl
theorem scal_4 : isScalarT Try.prog 4 = true := by kernel_rfl
theorem zero_4 : zeroV Try.prog 4 = some (.bool false) := by kernel_rfl
theorem cells_5 : Try.prog.cellsOf 5 = 1 := by kernel_rfl
theorem bytes_5 : Try.prog.bytesOf 5 = 1 := by kernel_rfl
theorem scal_5 : isScalarT Try.prog 5 = true := by kernel_rfl
theorem zero_5 : zeroV Try.prog 5 = some (.int .u8 0) := by kernel_rfl
theorem cells_6 : Try.prog.cellsOf 6 = 1 := by kernel_rfl
theorem bytes_6 : Try.prog.bytesOf 6 = 1 := by kernel_rfl
theorem scal_6 : isScalarT Try.prog 6 = true := by kernel_rfl
theorem zero_6 : zeroV Try.prog 6 = some (.int .u8 0) := by kernel_rfl
theorem cells_8 : Try.prog.cellsOf 8 = 4 := by kernel_rfl
theorem bytes_8 : Try.prog.bytesOf 8 = 24 := by kernel_rfl
theorem str_8 : isStruct Try.prog 8 = true := by kernel_rfl
theorem ff_8 : fieldsFlat Try.prog 8 = true := by kernel_rfl
theorem fld_8_0 : fieldAt Try.prog 8 0 = true := by kernel_rfl
theorem sfld_8_0 : scalarField Try.prog 8 0 = true := by kernel_rfl
theorem fld_8_1 : fieldAt Try.prog 8 1 = true := by kernel_rfl
theorem sfld_8_1 : scalarField Try.prog 8 1 = true := by kernel_rfl
theorem fld_8_2 : fieldAt Try.prog 8 2 = true := by kernel_rfl
theorem sfld_8_2 : scalarField Try.prog 8 2 = true := by kernel_rfl
theorem fld_8_3 : fieldAt Try.prog 8 3 = true := by kernel_rfl
theorem sfld_8_3 : scalarField Try.prog 8 3 = true := by kernel_rfl
theorem zero_8 : zeroV Try.prog 8 = some (.agg [.int .i64 0, .int .i64 0, .bool false, .int .u8 0]) := by kernel_rfl
theorem cells_9 : Try.prog.cellsOf 9 = 1 := by kernel_rfl
theorem bytes_9 : Try.prog.bytesOf 9 = 16 := by kernel_rfl
theorem scal_9 : isScalarT Try.prog 9 = true := by kernel_rfl
theorem zero_9 : zeroV Try.prog 9 = some (.str []) := by kernel_rfl
theorem cells_10 : Try.prog.cellsOf 10 = 1 := by kernel_rfl
theorem bytes_10 : Try.prog.bytesOf 10 = 16 := by kernel_rfl
theorem scal_10 : isScalarT Try.prog 10 = true := by kernel_rfl
theorem zero_10 : zeroV Try.prog 10 = some (.str []) := by kernel_rfl
theorem cells_11 : Try.prog.cellsOf 11 = 1 := by kernel_rfl
theorem bytes_11 : Try.prog.bytesOf 11 = 16 := by kernel_rfl
theorem scal_11 : isScalarT Try.prog 11 = true := by kernel_rfl
theorem zero_11 : zeroV Try.prog 11 = some (.str []) := by kernel_rfl
theorem cells_12 : Try.prog.cellsOf 12 = 1 := by kernel_rfl
theorem bytes_12 : Try.prog.bytesOf 12 = 8 := by kernel_rfl
theorem scal_12 : isScalarT Try.prog 12 = true := by kernel_rfl
theorem zero_12 : zeroV Try.prog 12 = some (.int .u64 0) := by kernel_rfl
theorem cells_14 : Try.prog.cellsOf 14 = 2 := by kernel_rfl
theorem bytes_14 : Try.prog.bytesOf 14 = 24 := by kernel_rfl
theorem str_14 : isStruct Try.prog 14 = true := by kernel_rfl
theorem ff_14 : fieldsFlat Try.prog 14 = true := by kernel_rfl
theorem fld_14_0 : fieldAt Try.prog 14 0 = true := by kernel_rfl
theorem sfld_14_0 : scalarField Try.prog 14 0 = true := by kernel_rfl
theorem fld_14_1 : fieldAt Try.prog 14 1 = true := by kernel_rfl
theorem sfld_14_1 : scalarField Try.prog 14 1 = true := by kernel_rfl
theorem zero_14 : zeroV Try.prog 14 = some (.agg [.str [], .int .u64 0]) := by kernel_rfl
theorem cells_19 : Try.prog.cellsOf 19 = 1 := by kernel_rfl
theorem bytes_19 : Try.prog.bytesOf 19 = 8 := by kernel_rfl
theorem str_19 : isStruct Try.prog 19 = true := by kernel_rfl
theorem ff_19 : fieldsFlat Try.prog 19 = true := by kernel_rfl
theorem fld_19_0 : fieldAt Try.prog 19 0 = true := by kernel_rfl
theorem sfld_19_0 : scalarField Try.prog 19 0 = true := by kernel_rfl
theorem cells_22 : Try.prog.cellsOf 22 = 1 := by kernel_rfl
theorem bytes_22 : Try.prog.bytesOf 22 = 24 := by kernel_rfl
theorem scal_22 : isScalarT Try.prog 22 = true := by kernel_rfl
theorem zero_22 : zeroV Try.prog 22 = some (.nils 1) := by kernel_rfl
theorem cells_24 : Try.prog.cellsOf 24 = 1 := by kernel_rfl
theorem bytes_24 : Try.prog.bytesOf 24 = 24 := by kernel_rfl
theorem scal_24 : isScalarT Try.prog 24 = true := by kernel_rfl
theorem zero_24 : zeroV Try.prog 24 = some (.nils 4) := by kernel_rfl
theorem cells_25 : Try.prog.cellsOf 25 = 1 := by kernel_rfl
theorem bytes_25 : Try.prog.bytesOf 25 = 24 := by kernel_rfl
theorem scal_25 : isScalarT Try.prog 25 = true := by kernel_rfl
theorem zero_25 : zeroV Try.prog 25 = some (.nils 2) := by kernel_rfl
theorem cells_27 : Try.prog.cellsOf 27 = 7 := by kernel_rfl
theorem bytes_27 : Try.prog.bytesOf 27 = 96 := by kernel_rfl
theorem str_27 : isStruct Try.prog 27 = true := by kernel_rfl
theorem ff_27 : fieldsFlat Try.prog 27 = true := by kernel_rfl
theorem fld_27_0 : fieldAt Try.prog 27 0 = true := by kernel_rfl
theorem sfld_27_0 : scalarField Try.prog 27 0 = true := by kernel_rfl
theorem fld_27_1 : fieldAt Try.prog 27 1 = true := by kernel_rfl
theorem sfld_27_1 : scalarField Try.prog 27 1 = true := by kernel_rfl
theorem fld_27_2 : fieldAt Try.prog 27 2 = true := by kernel_rfl
theorem sfld_27_2 : scalarField Try.prog 27 2 = true := by kernel_rfl
theorem fld_27_3 : fieldAt Try.prog 27 3 = true := by kernel_rfl
theorem sfld_27_3 : scalarField Try.prog 27 3 = true := by kernel_rfl
theorem fld_27_4 : fieldAt Try.prog 27 4 = true := by kernel_rfl
theorem sfld_27_4 : scalarField Try.prog 27 4 = true := by kernel_rfl
theorem fld_27_5 : fieldAt Try.prog 27 5 = true := by kernel_rfl
theorem sfld_27_5 : scalarField Try.prog 27 5 = true := by kernel_rfl
theorem fld_27_6 : fieldAt Try.prog 27 6 = true := by kernel_rfl
theorem sfld_27_6 : scalarField Try.prog 27 6 = true := by kernel_rfl
theorem zero_27 : zeroV Try.prog 27 = some (.agg [.str [], .int .i64 0, .int .i64 0, .int .i64 0, .nils 4, .nils 2, .int .i64 0]) := by kernel_rfl
theorem cells_29 : Try.prog.cellsOf 29 = 1 := by kernel_rfl
theorem bytes_29 : Try.prog.bytesOf 29 = 24 := by kernel_rfl
theorem scal_29 : isScalarT Try.prog 29 = true := by kernel_rfl
theorem zero_29 : zeroV Try.prog 29 = some (.nils 1) := by kernel_rfl
theorem cells_32 : Try.prog.cellsOf 32 = 1 := by kernel_rfl
theorem bytes_32 : Try.prog.bytesOf 32 = 24 := by kernel_rfl
theorem scal_32 : isScalarT Try.prog 32 = true := by kernel_rfl
theorem zero_32 : zeroV Try.prog 32 = some (.nils 2) := by kernel_rfl
theorem cells_47 : Try.prog.cellsOf 47 = 2 := by kernel_rfl
theorem bytes_47 : Try.prog.bytesOf 47 = 16 := by kernel_rfl
theorem str_47 : isStruct Try.prog 47 = true := by kernel_rfl
theorem ff_47 : fieldsFlat Try.prog 47 = true := by kernel_rfl
theorem fld_47_0 : fieldAt Try.prog 47 0 = true := by kernel_rfl
theorem sfld_47_0 : scalarField Try.prog 47 0 = true := by kernel_rfl
theorem fld_47_1 : fieldAt Try.prog 47 1 = true := by kernel_rfl
theorem sfld_47_1 : scalarField Try.prog 47 1 = true := by kernel_rfl
theorem zero_47 : zeroV Try.prog 47 = some (.agg [.int .i64 0, .int .i64 0]) := by kernel_rfl
theorem cells_55 : Try.prog.cellsOf 55 = 2 := by kernel_rfl
theorem bytes_55 : Try.prog.bytesOf 55 = 16 := by kernel_rfl
theorem str_55 : isStruct Try.prog 55 = true := by kernel_rfl
theorem ff_55 : fieldsFlat Try.prog 55 = true := by kernel_rfl
theorem seq_55 : structEq Try.prog 55 = some [0, 0] := by kernel_rfl
theorem fld_55_0 : fieldAt Try.prog 55 0 = true := by kernel_rfl
theorem sfld_55_0 : scalarField Try.prog 55 0 = true := by kernel_rfl
theorem fld_55_1 : fieldAt Try.prog 55 1 = true := by kernel_rfl
theorem sfld_55_1 : scalarField Try.prog 55 1 = true := by kernel_rfl
theorem zero_55 : zeroV Try.prog 55 = some (.agg [.int .i64 0, .int .i64 0]) := by kernel_rfl
theorem cells_57 : Try.prog.cellsOf 57 = 4 := by kernel_rfl
theorem bytes_57 : Try.prog.bytesOf 57 = 40 := by kernel_rfl
theorem str_57 : isStruct Try.prog 57 = true := by kernel_rfl
theorem ff_57 : fieldsFlat Try.prog 57 = true := by kernel_rfl
theorem seq_57 : structEq Try.prog 57 = some [0, 0, 0, 1] := by kernel_rfl
theorem fld_57_0 : fieldAt Try.prog 57 0 = true := by kernel_rfl
theorem sfld_57_0 : scalarField Try.prog 57 0 = true := by kernel_rfl
theorem fld_57_1 : fieldAt Try.prog 57 1 = true := by kernel_rfl
theorem sfld_57_1 : scalarField Try.prog 57 1 = true := by kernel_rfl
theorem fld_57_2 : fieldAt Try.prog 57 2 = true := by kernel_rfl
theorem sfld_57_2 : scalarField Try.prog 57 2 = true := by kernel_rfl
theorem fld_57_3 : fieldAt Try.prog 57 3 = true := by kernel_rfl
theorem sfld_57_3 : scalarField Try.prog 57 3 = true := by kernel_rfl
theorem zero_57 : zeroV Try.prog 57 = some (.agg [.int .i64 0, .int .i64 0, .int .i64 0, .str []]) := by kernel_rfl
theorem cells_61 : Try.prog.cellsOf 61 = 1 := by kernel_rfl
theorem bytes_61 : Try.prog.bytesOf 61 = 24 := by kernel_rfl
theorem scal_61 : isScalarT Try.prog 61 = true := by kernel_rfl
theorem zero_61 : zeroV Try.prog 61 = some (.nils 1) := by kernel_rfl
theorem cells_72 : Try.prog.cellsOf 72 = 3 := by kernel_rfl
theorem bytes_72 : Try.prog.bytesOf 72 = 40 := by kernel_rfl
theorem str_72 : isStruct Try.prog 72 = true := by kernel_rfl
theorem ff_72 : fieldsFlat Try.prog 72 = true := by kernel_rfl
theorem fld_72_0 : fieldAt Try.prog 72 0 = true := by kernel_rfl
theorem sfld_72_0 : scalarField Try.prog 72 0 = true := by kernel_rfl
theorem fld_72_1 : fieldAt Try.prog 72 1 = true := by kernel_rfl
theorem sfld_72_1 : scalarField Try.prog 72 1 = true := by kernel_rfl
theorem fld_72_2 : fieldAt Try.prog 72 2 = true := by kernel_rfl
theorem sfld_72_2 : scalarField Try.prog 72 2 = true := by kernel_rfl
theorem zero_72 : zeroV Try.prog 72 = some (.agg [.nils 1, .int .i64 0, .int .i64 0]) := by kernel_rfl
theorem cells_73 : Try.prog.cellsOf 73 = 1 := by kernel_rfl
theorem bytes_73 : Try.prog.bytesOf 73 = 8 := by kernel_rfl
theorem scal_73 : isScalarT Try.prog 73 = true := by kernel_rfl
theorem zero_73 : zeroV Try.prog 73 = some (.int .u64 0) := by kernel_rfl
theorem cells_86 : Try.prog.cellsOf 86 = 1 := by kernel_rfl
theorem bytes_86 : Try.prog.bytesOf 86 = 8 := by kernel_rfl
theorem scal_86 : isScalarT Try.prog 86 = true := by kernel_rfl
theorem zero_86 : zeroV Try.prog 86 = some (.int .i64 0) := by kernel_rfl
theorem cells_95 : Try.prog.cellsOf 95 = 1 := by kernel_rfl
theorem bytes_95 : Try.prog.bytesOf 95 = 4 := by kernel_rfl
theorem scal_95 : isScalarT Try.prog 95 = true := by kernel_rfl
theorem zero_95 : zeroV Try.prog 95 = some (.int .u32 0) := by kernel_rfl
theorem cells_97 : Try.prog.cellsOf 97 = 1 := by kernel_rfl
theorem bytes_97 : Try.prog.bytesOf 97 = 8 := by kernel_rfl
theorem scal_97 : isScalarT Try.prog 97 = true := by kernel_rfl
theorem zero_97 : zeroV Try.prog 97 = some (.int .u64 0) := by kernel_rfl
theorem cells_98 : Try.prog.cellsOf 98 = 1 := by kernel_rfl
theorem bytes_98 : Try.prog.bytesOf 98 = 24 := by kernel_rfl
theorem scal_98 : isScalarT Try.prog 98 = true := by kernel_rfl
theorem zero_98 : zeroV Try.prog 98 = some (.nils 1) := by kernel_rfl
theorem cells_104 : Try.prog.cellsOf 104 = 1 := by kernel_rfl
theorem bytes_104 : Try.prog.bytesOf 104 = 8 := by kernel_rfl
theorem scal_104 : isScalarT Try.prog 104 = true := by kernel_rfl
theorem zero_104 : zeroV Try.prog 104 = some (.int .u64 0) := by kernel_rfl
theorem cells_121 : Try.prog.cellsOf 121 = 1 := by kernel_rfl
theorem bytes_121 : Try.prog.bytesOf 121 = 1 := by kernel_rfl
theorem scal_121 : isScalarT Try.prog 121 = true := by kernel_rfl
theorem zero_121 : zeroV Try.prog 121 = some (.int .u8 0) := by kernel_rfl
attribute [go_sem] Try.underlying2 Try.underlying3 Try.underlying4 Try.underlying5 Try.underlying6 Try.underlying8 Try.underlying9 Try.underlying10 Try.underlying11 Try.underlying12 Try.underlying14 Try.underlying19 Try.underlying22 Try.underlying24 Try.underlying25 Try.underlying27 Try.underlying29 Try.underlying32 Try.underlying47 Try.underlying55 Try.underlying57 Try.underlying61 Try.underlying72 Try.underlying73 Try.underlying86 Try.underlying95 Try.underlying97 Try.underlying98 Try.underlying104 Try.underlying121 cells_2 bytes_2 scal_2 zero_2 cells_3 bytes_3 scal_3 zero_3 cells_4 bytes_4 scal_4 zero_4 cells_5 bytes_5 scal_5 zero_5 cells_6 bytes_6 scal_6 zero_6 cells_8 bytes_8 str_8 ff_8 fld_8_0 fld_8_1 fld_8_2 fld_8_3 sfld_8_0 sfld_8_1 sfld_8_2 sfld_8_3 zero_8 cells_9 bytes_9 scal_9 zero_9 cells_10 bytes_10 scal_10 zero_10 cells_11 bytes_11 scal_11 zero_11 cells_12 bytes_12 scal_12 zero_12 cells_14 bytes_14 str_14 ff_14 fld_14_0 fld_14_1 sfld_14_0 sfld_14_1 zero_14 cells_19 bytes_19 str_19 ff_19 fld_19_0 sfld_19_0 cells_22 bytes_22 scal_22 zero_22 cells_24 bytes_24 scal_24 zero_24 cells_25 bytes_25 scal_25 zero_25 cells_27 bytes_27 str_27 ff_27 fld_27_0 fld_27_1 fld_27_2 fld_27_3 fld_27_4 fld_27_5 fld_27_6 sfld_27_0 sfld_27_1 sfld_27_2 sfld_27_3 sfld_27_4 sfld_27_5 sfld_27_6 zero_27 cells_29 bytes_29 scal_29 zero_29 cells_32 bytes_32 scal_32 zero_32 cells_47 bytes_47 str_47 ff_47 fld_47_0 fld_47_1 sfld_47_0 sfld_47_1 zero_47 cells_55 bytes_55 str_55 ff_55 seq_55 fld_55_0 fld_55_1 sfld_55_0 sfld_55_1 zero_55 cells_57 bytes_57 str_57 ff_57 seq_57 fld_57_0 fld_57_1 fld_57_2 fld_57_3 sfld_57_0 sfld_57_1 sfld_57_2 sfld_57_3 zero_57 cells_61 bytes_61 scal_61 zero_61 cells_72 bytes_72 str_72 ff_72 fld_72_0 fld_72_1 fld_72_2 sfld_72_0 sfld_72_1 sfld_72_2 zero_72 cells_73 bytes_73 scal_73 zero_73 cells_86 bytes_86 scal_86 zero_86 cells_95 bytes_95 scal_95 zero_95 cells_97 bytes_97 scal_97 zero_97 cells_98 bytes_98 scal_98 zero_98 cells_104 bytes_104 scal_104 zero_104 cells_121 bytes_121 scal_121 zero_121
end Go.Proofs.Ytimiccneikhkgaa.Ty
