/- Facts on the types of the program, each looked up in it. -/
import Derived.Test.YtglldabpgobimaaVmSet
import Derived.Test.YtglldabpgobimaaProg
import Derived.KernelRfl
namespace Go.Proofs.Ytglldabpgobimaa.Ty
open Go Go.VM
set_option maxRecDepth 100000
theorem cells_2 : Try.prog.cellsOf 2 = 1 := by kernel_rfl
theorem bytes_2 : Try.prog.bytesOf 2 = 8 := by kernel_rfl
theorem scal_2 : isScalarT Try.prog 2 = true := by kernel_rfl
theorem zero_2 : zeroV Try.prog 2 = some (.int .i64 0) := by kernel_rfl
theorem cells_3 : Try.prog.cellsOf 3 = 1 := by kernel_rfl
theorem bytes_3 : Try.prog.bytesOf 3 = 8 := by kernel_rfl
theorem scal_3 : isScalarT Try.prog 3 = true := by kernel_rfl
theorem zero_3 : zeroV Try.prog 3 = some (.int .i64 0) := by kernel_rfl
theorem cells_4 : Try.prog.cellsOf 4 = 1 := by kernel_rfl
theorem bytes_4 : Try.prog.bytesOf 4 = 1 := by kernel_rfl
theorem scal_4 : isScalarT Try.prog 4 = true := by kernel_rfl
theorem zero_4 : zeroV Try.prog 4 = some (.bool false) := by kernel_rfl
theorem cells_5 : Try.prog.cellsOf 5 = 1 := by kernel_rfl
theorem bytes_5 : Try.prog.bytesOf 5 = 1 := by kernel_rfl
theorem scal_5 : isScalarT Try.prog 5 = true := by kernel_rfl
theorem zero_5 : zeroV Try.prog 5 = some (.int .u8 0) := by kernel_rfl
theorem cells_6 : Try.prog.cellsOf 6 = 1 := by kernel_rfl
theorem bytes_6 : Try.prog.bytesOf 6 = 1 := by kernel_rfl
theorem scal_6 : isScalarT Try.prog 6 = true := by kernel_rfl
theorem zero_6 : zeroV Try.prog 6 = some (.int .u8 0) := by kernel_rfl
theorem cells_8 : Try.prog.cellsOf 8 = 4 := by kernel_rfl
theorem bytes_8 : Try.prog.bytesOf 8 = 24 := by kernel_rfl
theorem str_8 : isStruct Try.prog 8 = true := by kernel_rfl
theorem ff_8 : fieldsFlat Try.prog 8 = true := by kernel_rfl
theorem fld_8_0 : fieldAt Try.prog 8 0 = true := by kernel_rfl
theorem sfld_8_0 : scalarField Try.prog 8 0 = true := by kernel_rfl
theorem fld_8_1 : fieldAt Try.prog 8 1 = true := by kernel_rfl
theorem sfld_8_1 : scalarField Try.prog 8 1 = true := by kernel_rfl
theorem fld_8_2 : fieldAt Try.prog 8 2 = true := by kernel_rfl
theorem sfld_8_2 : scalarField Try.prog 8 2 = true := by kernel_rfl
theorem fld_8_3 : fieldAt Try.prog 8 3 = true := by kernel_rfl
theorem sfld_8_3 : scalarField Try.prog 8 3 = true := by kernel_rfl
theorem zero_8 : zeroV Try.prog 8 = some (.agg [.int .i64 0, .int .i64 0, .bool false, .int .u8 0]) := by kernel_rfl
theorem cells_9 : Try.prog.cellsOf 9 = 1 := by kernel_rfl
theorem bytes_9 : Try.prog.bytesOf 9 = 16 := by kernel_rfl
theorem scal_9 : isScalarT Try.prog 9 = true := by kernel_rfl
theorem zero_9 : zeroV Try.prog 9 = some (.str []) := by kernel_rfl
theorem cells_10 : Try.prog.cellsOf 10 = 1 := by kernel_rfl
theorem bytes_10 : Try.prog.bytesOf 10 = 16 := by kernel_rfl
theorem scal_10 : isScalarT Try.prog 10 = true := by kernel_rfl
theorem zero_10 : zeroV Try.prog 10 = some (.str []) := by kernel_rfl
theorem cells_11 : Try.prog.cellsOf 11 = 1 := by kernel_rfl
theorem bytes_11 : Try.prog.bytesOf 11 = 16 := by kernel_rfl
theorem scal_11 : isScalarT Try.prog 11 = true := by kernel_rfl
theorem zero_11 : zeroV Try.prog 11 = some (.str []) := by kernel_rfl
theorem cells_12 : Try.prog.cellsOf 12 = 1 := by kernel_rfl
theorem bytes_12 : Try.prog.bytesOf 12 = 8 := by kernel_rfl
theorem scal_12 : isScalarT Try.prog 12 = true := by kernel_rfl
theorem zero_12 : zeroV Try.prog 12 = some (.int .u64 0) := by kernel_rfl
theorem cells_14 : Try.prog.cellsOf 14 = 2 := by kernel_rfl
theorem bytes_14 : Try.prog.bytesOf 14 = 24 := by kernel_rfl
theorem str_14 : isStruct Try.prog 14 = true := by kernel_rfl
theorem ff_14 : fieldsFlat Try.prog 14 = true := by kernel_rfl
theorem fld_14_0 : fieldAt Try.prog 14 0 = true := by kernel_rfl
theorem sfld_14_0 : scalarField Try.prog 14 0 = true := by kernel_rfl
theorem fld_14_1 : fieldAt Try.prog 14 1 = true := by kernel_rfl
theorem sfld_14_1 : scalarField Try.prog 14 1 = true := by kernel_rfl
theorem zero_14 : zeroV Try.prog 14 = some (.agg [.str [], .int .u64 0]) := by kernel_rfl
theorem cells_19 : Try.prog.cellsOf 19 = 1 := by kernel_rfl
theorem bytes_19 : Try.prog.bytesOf 19 = 8 := by kernel_rfl
theorem str_19 : isStruct Try.prog 19 = true := by kernel_rfl
theorem ff_19 : fieldsFlat Try.prog 19 = true := by kernel_rfl
theorem fld_19_0 : fieldAt Try.prog 19 0 = true := by kernel_rfl
theorem sfld_19_0 : scalarField Try.prog 19 0 = true := by kernel_rfl
theorem cells_22 : Try.prog.cellsOf 22 = 1 := by kernel_rfl
theorem bytes_22 : Try.prog.bytesOf 22 = 24 := by kernel_rfl
theorem scal_22 : isScalarT Try.prog 22 = true := by kernel_rfl
theorem zero_22 : zeroV Try.prog 22 = some (.nils 4) := by kernel_rfl
theorem cells_23 : Try.prog.cellsOf 23 = 1 := by kernel_rfl
theorem bytes_23 : Try.prog.bytesOf 23 = 24 := by kernel_rfl
theorem scal_23 : isScalarT Try.prog 23 = true := by kernel_rfl
theorem zero_23 : zeroV Try.prog 23 = some (.nils 2) := by kernel_rfl
theorem cells_25 : Try.prog.cellsOf 25 = 7 := by kernel_rfl
theorem bytes_25 : Try.prog.bytesOf 25 = 96 := by kernel_rfl
theorem str_25 : isStruct Try.prog 25 = true := by kernel_rfl
theorem ff_25 : fieldsFlat Try.prog 25 = true := by kernel_rfl
theorem fld_25_0 : fieldAt Try.prog 25 0 = true := by kernel_rfl
theorem sfld_25_0 : scalarField Try.prog 25 0 = true := by kernel_rfl
theorem fld_25_1 : fieldAt Try.prog 25 1 = true := by kernel_rfl
theorem sfld_25_1 : scalarField Try.prog 25 1 = true := by kernel_rfl
theorem fld_25_2 : fieldAt Try.prog 25 2 = true := by kernel_rfl
theorem sfld_25_2 : scalarField Try.prog 25 2 = true := by kernel_rfl
theorem fld_25_3 : fieldAt Try.prog 25 3 = true := by kernel_rfl
theorem sfld_25_3 : scalarField Try.prog 25 3 = true := by kernel_rfl
theorem fld_25_4 : fieldAt Try.prog 25 4 = true := by kernel_rfl
theorem sfld_25_4 : scalarField Try.prog 25 4 = true := by kernel_rfl
theorem fld_25_5 : fieldAt Try.prog 25 5 = true := by kernel_rfl
theorem sfld_25_5 : scalarField Try.prog 25 5 = true := by kernel_rfl
theorem fld_25_6 : fieldAt Try.prog 25 6 = true := by kernel_rfl
theorem sfld_25_6 : scalarField Try.prog 25 6 = true := by kernel_rfl
theorem zero_25 : zeroV Try.prog 25 = some (.agg [.str [], .int .i64 0, .int .i64 0, .int .i64 0, .nils 4, .nils 2, .int .i64 0]) := by kernel_rfl
theorem cells_26 : Try.prog.cellsOf 26 = 1 := by kernel_rfl
theorem bytes_26 : Try.prog.bytesOf 26 = 24 := by kernel_rfl
theorem scal_26 : isScalarT Try.prog 26 = true := by kernel_rfl
theorem zero_26 : zeroV Try.prog 26 = some (.nils 2) := by kernel_rfl
theorem cells_29 : Try.prog.cellsOf 29 = 1 := by kernel_rfl
theorem bytes_29 : Try.prog.bytesOf 29 = 24 := by kernel_rfl
theorem scal_29 : isScalarT Try.prog 29 = true := by kernel_rfl
theorem zero_29 : zeroV Try.prog 29 = some (.nils 4) := by kernel_rfl
theorem cells_30 : Try.prog.cellsOf 30 = 1 := by kernel_rfl
theorem bytes_30 : Try.prog.bytesOf 30 = 24 := by kernel_rfl
theorem scal_30 : isScalarT Try.prog 30 = true := by kernel_rfl
theorem zero_30 : zeroV Try.prog 30 = some (.nils 2) := by kernel_rfl
theorem cells_32 : Try.prog.cellsOf 32 = 7 := by kernel_rfl
theorem bytes_32 : Try.prog.bytesOf 32 = 96 := by kernel_rfl
theorem str_32 : isStruct Try.prog 32 = true := by kernel_rfl
theorem ff_32 : fieldsFlat Try.prog 32 = true := by kernel_rfl
theorem fld_32_0 : fieldAt Try.prog 32 0 = true := by kernel_rfl
theorem sfld_32_0 : scalarField Try.prog 32 0 = true := by kernel_rfl
theorem fld_32_1 : fieldAt Try.prog 32 1 = true := by kernel_rfl
theorem sfld_32_1 : scalarField Try.prog 32 1 = true := by kernel_rfl
theorem fld_32_2 : fieldAt Try.prog 32 2 = true := by kernel_rfl
theorem sfld_32_2 : scalarField Try.prog 32 2 = true := by kernel_rfl
theorem fld_32_3 : fieldAt Try.prog 32 3 = true := by kernel_rfl
theorem sfld_32_3 : scalarField Try.prog 32 3 = true := by kernel_rfl
theorem fld_32_4 : fieldAt Try.prog 32 4 = true := by kernel_rfl
theorem sfld_32_4 : scalarField Try.prog 32 4 = true := by kernel_rfl
theorem fld_32_5 : fieldAt Try.prog 32 5 = true := by kernel_rfl
theorem sfld_32_5 : scalarField Try.prog 32 5 = true := by kernel_rfl
theorem fld_32_6 : fieldAt Try.prog 32 6 = true := by kernel_rfl
theorem sfld_32_6 : scalarField Try.prog 32 6 = true := by kernel_rfl
theorem zero_32 : zeroV Try.prog 32 = some (.agg [.str [], .int .i64 0, .int .i64 0, .int .i64 0, .nils 4, .nils 2, .int .i64 0]) := by kernel_rfl
theorem cells_33 : Try.prog.cellsOf 33 = 1 := by kernel_rfl
theorem bytes_33 : Try.prog.bytesOf 33 = 24 := by kernel_rfl
theorem scal_33 : isScalarT Try.prog 33 = true := by kernel_rfl
theorem zero_33 : zeroV Try.prog 33 = some (.nils 2) := by kernel_rfl
theorem cells_49 : Try.prog.cellsOf 49 = 1 := by kernel_rfl
theorem bytes_49 : Try.prog.bytesOf 49 = 24 := by kernel_rfl
theorem scal_49 : isScalarT Try.prog 49 = true := by kernel_rfl
theorem zero_49 : zeroV Try.prog 49 = some (.nils 7) := by kernel_rfl
theorem cells_51 : Try.prog.cellsOf 51 = 2 := by kernel_rfl
theorem bytes_51 : Try.prog.bytesOf 51 = 32 := by kernel_rfl
theorem str_51 : isStruct Try.prog 51 = true := by kernel_rfl
theorem ff_51 : fieldsFlat Try.prog 51 = true := by kernel_rfl
theorem fld_51_0 : fieldAt Try.prog 51 0 = true := by kernel_rfl
theorem sfld_51_0 : scalarField Try.prog 51 0 = true := by kernel_rfl
theorem fld_51_1 : fieldAt Try.prog 51 1 = true := by kernel_rfl
theorem sfld_51_1 : scalarField Try.prog 51 1 = true := by kernel_rfl
theorem zero_51 : zeroV Try.prog 51 = some (.agg [.nils 7, .int .i64 0]) := by kernel_rfl
theorem cells_53 : Try.prog.cellsOf 53 = 1 := by kernel_rfl
theorem bytes_53 : Try.prog.bytesOf 53 = 24 := by kernel_rfl
theorem scal_53 : isScalarT Try.prog 53 = true := by kernel_rfl
theorem zero_53 : zeroV Try.prog 53 = some (.nils 7) := by kernel_rfl
theorem cells_55 : Try.prog.cellsOf 55 = 2 := by kernel_rfl
theorem bytes_55 : Try.prog.bytesOf 55 = 32 := by kernel_rfl
theorem str_55 : isStruct Try.prog 55 = true := by kernel_rfl
theorem ff_55 : fieldsFlat Try.prog 55 = true := by kernel_rfl
theorem fld_55_0 : fieldAt Try.prog 55 0 = true := by kernel_rfl
theorem sfld_55_0 : scalarField Try.prog 55 0 = true := by kernel_rfl
theorem fld_55_1 : fieldAt Try.prog 55 1 = true := by kernel_rfl
theorem sfld_55_1 : scalarField Try.prog 55 1 = true := by kernel_rfl
theorem zero_55 : zeroV Try.prog 55 = some (.agg [.nils 7, .int .i64 0]) := by kernel_rfl
theorem cells_62 : Try.prog.cellsOf 62 = 1 := by kernel_rfl
theorem bytes_62 : Try.prog.bytesOf 62 = 24 := by kernel_rfl
theorem scal_62 : isScalarT Try.prog 62 = true := by kernel_rfl
theorem zero_62 : zeroV Try.prog 62 = some (.nils 1) := by kernel_rfl
theorem cells_65 : Try.prog.cellsOf 65 = 1 := by kernel_rfl
theorem bytes_65 : Try.prog.bytesOf 65 = 24 := by kernel_rfl
theorem scal_65 : isScalarT Try.prog 65 = true := by kernel_rfl
theorem zero_65 : zeroV Try.prog 65 = some (.nils 1) := by kernel_rfl
theorem cells_77 : Try.prog.cellsOf 77 = 4 := by kernel_rfl
theorem bytes_77 : Try.prog.bytesOf 77 = 40 := by kernel_rfl
theorem str_77 : isStruct Try.prog 77 = true := by kernel_rfl
theorem ff_77 : fieldsFlat Try.prog 77 = true := by kernel_rfl
theorem fld_77_0 : fieldAt Try.prog 77 0 = true := by kernel_rfl
theorem sfld_77_0 : scalarField Try.prog 77 0 = true := by kernel_rfl
theorem fld_77_1 : fieldAt Try.prog 77 1 = true := by kernel_rfl
theorem sfld_77_1 : scalarField Try.prog 77 1 = true := by kernel_rfl
theorem fld_77_2 : fieldAt Try.prog 77 2 = true := by kernel_rfl
theorem sfld_77_2 : scalarField Try.prog 77 2 = true := by kernel_rfl
theorem fld_77_3 : fieldAt Try.prog 77 3 = true := by kernel_rfl
theorem sfld_77_3 : scalarField Try.prog 77 3 = true := by kernel_rfl
theorem zero_77 : zeroV Try.prog 77 = some (.agg [.int .i64 0, .int .i64 0, .int .i64 0, .str []]) := by kernel_rfl
theorem cells_84 : Try.prog.cellsOf 84 = 2 := by kernel_rfl
theorem bytes_84 : Try.prog.bytesOf 84 = 16 := by kernel_rfl
theorem str_84 : isStruct Try.prog 84 = true := by kernel_rfl
theorem ff_84 : fieldsFlat Try.prog 84 = true := by kernel_rfl
theorem fld_84_0 : fieldAt Try.prog 84 0 = true := by kernel_rfl
theorem sfld_84_0 : scalarField Try.prog 84 0 = true := by kernel_rfl
theorem fld_84_1 : fieldAt Try.prog 84 1 = true := by kernel_rfl
theorem sfld_84_1 : scalarField Try.prog 84 1 = true := by kernel_rfl
theorem zero_84 : zeroV Try.prog 84 = some (.agg [.int .i64 0, .int .i64 0]) := by kernel_rfl
theorem cells_86 : Try.prog.cellsOf 86 = 2 := by kernel_rfl
theorem bytes_86 : Try.prog.bytesOf 86 = 16 := by kernel_rfl
theorem str_86 : isStruct Try.prog 86 = true := by kernel_rfl
theorem ff_86 : fieldsFlat Try.prog 86 = true := by kernel_rfl
theorem fld_86_0 : fieldAt Try.prog 86 0 = true := by kernel_rfl
theorem sfld_86_0 : scalarField Try.prog 86 0 = true := by kernel_rfl
theorem fld_86_1 : fieldAt Try.prog 86 1 = true := by kernel_rfl
theorem sfld_86_1 : scalarField Try.prog 86 1 = true := by kernel_rfl
theorem zero_86 : zeroV Try.prog 86 = some (.agg [.int .i64 0, .int .i64 0]) := by kernel_rfl
theorem cells_94 : Try.prog.cellsOf 94 = 2 := by kernel_rfl
theorem bytes_94 : Try.prog.bytesOf 94 = 16 := by kernel_rfl
theorem str_94 : isStruct Try.prog 94 = true := by kernel_rfl
theorem ff_94 : fieldsFlat Try.prog 94 = true := by kernel_rfl
theorem fld_94_0 : fieldAt Try.prog 94 0 = true := by kernel_rfl
theorem sfld_94_0 : scalarField Try.prog 94 0 = true := by kernel_rfl
theorem fld_94_1 : fieldAt Try.prog 94 1 = true := by kernel_rfl
theorem sfld_94_1 : scalarField Try.prog 94 1 = true := by kernel_rfl
theorem zero_94 : zeroV Try.prog 94 = some (.agg [.int .i64 0, .int .i64 0]) := by kernel_rfl
theorem cells_120 : Try.prog.cellsOf 120 = 4 := by kernel_rfl
theorem bytes_120 : Try.prog.bytesOf 120 = 40 := by kernel_rfl
theorem str_120 : isStruct Try.prog 120 = true := by kernel_rfl
theorem ff_120 : fieldsFlat Try.prog 120 = true := by kernel_rfl
theorem fld_120_0 : fieldAt Try.prog 120 0 = true := by kernel_rfl
theorem sfld_120_0 : scalarField Try.prog 120 0 = true := by kernel_rfl
theorem fld_120_1 : fieldAt Try.prog 120 1 = true := by kernel_rfl
theorem sfld_120_1 : scalarField Try.prog 120 1 = true := by kernel_rfl
theorem fld_120_2 : fieldAt Try.prog 120 2 = true := by kernel_rfl
theorem sfld_120_2 : scalarField Try.prog 120 2 = true := by kernel_rfl
theorem fld_120_3 : fieldAt Try.prog 120 3 = true := by kernel_rfl
theorem sfld_120_3 : scalarField Try.prog 120 3 = true := by kernel_rfl
theorem zero_120 : zeroV Try.prog 120 = some (.agg [.int .i64 0, .int .i64 0, .int .i64 0, .str []]) := by kernel_rfl
theorem cells_125 : Try.prog.cellsOf 125 = 2 := by kernel_rfl
theorem bytes_125 : Try.prog.bytesOf 125 = 16 := by kernel_rfl
theorem str_125 : isStruct Try.prog 125 = true := by kernel_rfl
theorem ff_125 : fieldsFlat Try.prog 125 = true := by kernel_rfl
theorem fld_125_0 : fieldAt Try.prog 125 0 = true := by kernel_rfl
theorem sfld_125_0 : scalarField Try.prog 125 0 = true := by kernel_rfl
theorem fld_125_1 : fieldAt Try.prog 125 1 = true := by kernel_rfl
theorem sfld_125_1 : scalarField Try.prog 125 1 = true := by kernel_rfl
theorem zero_125 : zeroV Try.prog 125 = some (.agg [.int .i64 0, .int .i64 0]) := by kernel_rfl
theorem cells_133 : Try.prog.cellsOf 133 = 1 := by kernel_rfl
theorem bytes_133 : Try.prog.bytesOf 133 = 8 := by kernel_rfl
theorem scal_133 : isScalarT Try.prog 133 = true := by kernel_rfl
theorem zero_133 : zeroV Try.prog 133 = some (.int .u64 0) := by kernel_rfl
theorem cells_137 : Try.prog.cellsOf 137 = 1 := by kernel_rfl
theorem bytes_137 : Try.prog.bytesOf 137 = 24 := by kernel_rfl
theorem scal_137 : isScalarT Try.prog 137 = true := by kernel_rfl
theorem zero_137 : zeroV Try.prog 137 = some (.nils 1) := by kernel_rfl
theorem cells_142 : Try.prog.cellsOf 142 = 3 := by kernel_rfl
theorem bytes_142 : Try.prog.bytesOf 142 = 40 := by kernel_rfl
theorem str_142 : isStruct Try.prog 142 = true := by kernel_rfl
theorem ff_142 : fieldsFlat Try.prog 142 = true := by kernel_rfl
theorem fld_142_0 : fieldAt Try.prog 142 0 = true := by kernel_rfl
theorem sfld_142_0 : scalarField Try.prog 142 0 = true := by kernel_rfl
theorem fld_142_1 : fieldAt Try.prog 142 1 = true := by kernel_rfl
theorem sfld_142_1 : scalarField Try.prog 142 1 = true := by kernel_rfl
theorem fld_142_2 : fieldAt Try.prog 142 2 = true := by kernel_rfl
theorem sfld_142_2 : scalarField Try.prog 142 2 = true := by kernel_rfl
theorem zero_142 : zeroV Try.prog 142 = some (.agg [.nils 1, .int .i64 0, .int .i64 0]) := by kernel_rfl
theorem cells_144 : Try.prog.cellsOf 144 = 1 := by kernel_rfl
theorem bytes_144 : Try.prog.bytesOf 144 = 24 := by kernel_rfl
theorem scal_144 : isScalarT Try.prog 144 = true := by kernel_rfl
theorem zero_144 : zeroV Try.prog 144 = some (.nils 1) := by kernel_rfl
theorem cells_148 : Try.prog.cellsOf 148 = 1 := by kernel_rfl
theorem bytes_148 : Try.prog.bytesOf 148 = 8 := by kernel_rfl
theorem scal_148 : isScalarT Try.prog 148 = true := by kernel_rfl
theorem zero_148 : zeroV Try.prog 148 = some (.int .i64 0) := by kernel_rfl
theorem cells_157 : Try.prog.cellsOf 157 = 1 := by kernel_rfl
theorem bytes_157 : Try.prog.bytesOf 157 = 4 := by kernel_rfl
theorem scal_157 : isScalarT Try.prog 157 = true := by kernel_rfl
theorem zero_157 : zeroV Try.prog 157 = some (.int .u32 0) := by kernel_rfl
theorem cells_159 : Try.prog.cellsOf 159 = 1 := by kernel_rfl
theorem bytes_159 : Try.prog.bytesOf 159 = 8 := by kernel_rfl
theorem scal_159 : isScalarT Try.prog 159 = true := by kernel_rfl
theorem zero_159 : zeroV Try.prog 159 = some (.int .u64 0) := by kernel_rfl
theorem cells_162 : Try.prog.cellsOf 162 = 1 := by kernel_rfl
theorem bytes_162 : Try.prog.bytesOf 162 = 8 := by kernel_rfl
theorem scal_162 : isScalarT Try.prog 162 = true := by kernel_rfl
theorem zero_162 : zeroV Try.prog 162 = some (.int .u64 0) := by kernel_rfl
theorem cells_179 : Try.prog.cellsOf 179 = 1 := by kernel_rfl
theorem bytes_179 : Try.prog.bytesOf 179 = 1 := by kernel_rfl
theorem scal_179 : isScalarT Try.prog 179 = true := by kernel_rfl
theorem zero_179 : zeroV Try.prog 179 = some (.int .u8 0) := by kernel_rfl
attribute [go_sem] Try.underlying2 Try.underlying3 Try.underlying4 Try.underlying5 Try.underlying6 Try.underlying8 Try.underlying9 Try.underlying10 Try.underlying11 Try.underlying12 Try.underlying14 Try.underlying19 Try.underlying22 Try.underlying23 Try.underlying25 Try.underlying26 Try.underlying29 Try.underlying30 Try.underlying32 Try.underlying33 Try.underlying49 Try.underlying51 Try.underlying53 Try.underlying55 Try.underlying62 Try.underlying65 Try.underlying77 Try.underlying84 Try.underlying86 Try.underlying94 Try.underlying120 Try.underlying125 Try.underlying133 Try.underlying137 Try.underlying142 Try.underlying144 Try.underlying148 Try.underlying157 Try.underlying159 Try.underlying162 Try.underlying179 cells_2 bytes_2 scal_2 zero_2 cells_3 bytes_3 scal_3 zero_3 cells_4 bytes_4 scal_4 zero_4 cells_5 bytes_5 scal_5 zero_5 cells_6 bytes_6 scal_6 zero_6 cells_8 bytes_8 str_8 ff_8 fld_8_0 fld_8_1 fld_8_2 fld_8_3 sfld_8_0 sfld_8_1 sfld_8_2 sfld_8_3 zero_8 cells_9 bytes_9 scal_9 zero_9 cells_10 bytes_10 scal_10 zero_10 cells_11 bytes_11 scal_11 zero_11 cells_12 bytes_12 scal_12 zero_12 cells_14 bytes_14 str_14 ff_14 fld_14_0 fld_14_1 sfld_14_0 sfld_14_1 zero_14 cells_19 bytes_19 str_19 ff_19 fld_19_0 sfld_19_0 cells_22 bytes_22 scal_22 zero_22 cells_23 bytes_23 scal_23 zero_23 cells_25 bytes_25 str_25 ff_25 fld_25_0 fld_25_1 fld_25_2 fld_25_3 fld_25_4 fld_25_5 fld_25_6 sfld_25_0 sfld_25_1 sfld_25_2 sfld_25_3 sfld_25_4 sfld_25_5 sfld_25_6 zero_25 cells_26 bytes_26 scal_26 zero_26 cells_29 bytes_29 scal_29 zero_29 cells_30 bytes_30 scal_30 zero_30 cells_32 bytes_32 str_32 ff_32 fld_32_0 fld_32_1 fld_32_2 fld_32_3 fld_32_4 fld_32_5 fld_32_6 sfld_32_0 sfld_32_1 sfld_32_2 sfld_32_3 sfld_32_4 sfld_32_5 sfld_32_6 zero_32 cells_33 bytes_33 scal_33 zero_33 cells_49 bytes_49 scal_49 zero_49 cells_51 bytes_51 str_51 ff_51 fld_51_0 fld_51_1 sfld_51_0 sfld_51_1 zero_51 cells_53 bytes_53 scal_53 zero_53 cells_55 bytes_55 str_55 ff_55 fld_55_0 fld_55_1 sfld_55_0 sfld_55_1 zero_55 cells_62 bytes_62 scal_62 zero_62 cells_65 bytes_65 scal_65 zero_65 cells_77 bytes_77 str_77 ff_77 fld_77_0 fld_77_1 fld_77_2 fld_77_3 sfld_77_0 sfld_77_1 sfld_77_2 sfld_77_3 zero_77 cells_84 bytes_84 str_84 ff_84 fld_84_0 fld_84_1 sfld_84_0 sfld_84_1 zero_84 cells_86 bytes_86 str_86 ff_86 fld_86_0 fld_86_1 sfld_86_0 sfld_86_1 zero_86 cells_94 bytes_94 str_94 ff_94 fld_94_0 fld_94_1 sfld_94_0 sfld_94_1 zero_94 cells_120 bytes_120 str_120 ff_120 fld_120_0 fld_120_1 fld_120_2 fld_120_3 sfld_120_0 sfld_120_1 sfld_120_2 sfld_120_3 zero_120 cells_125 bytes_125 str_125 ff_125 fld_125_0 fld_125_1 sfld_125_0 sfld_125_1 zero_125 cells_133 bytes_133 scal_133 zero_133 cells_137 bytes_137 scal_137 zero_137 cells_142 bytes_142 str_142 ff_142 fld_142_0 fld_142_1 fld_142_2 sfld_142_0 sfld_142_1 sfld_142_2 zero_142 cells_144 bytes_144 scal_144 zero_144 cells_148 bytes_148 scal_148 zero_148 cells_157 bytes_157 scal_157 zero_157 cells_159 bytes_159 scal_159 zero_159 cells_162 bytes_162 scal_162 zero_162 cells_179 bytes_179 scal_179 zero_179
end Go.Proofs.Ytglldabpgobimaa.Ty
