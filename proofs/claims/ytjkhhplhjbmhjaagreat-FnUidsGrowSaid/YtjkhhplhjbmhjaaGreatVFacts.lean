/- Facts on the types of the program, each looked up in it. -/
import Derived.Test.YtjkhhplhjbmhjaaGreatVmSet
import Derived.Test.YtjkhhplhjbmhjaaGreatProg
import Derived.KernelRfl
namespace Go.Proofs.YtjkhhplhjbmhjaaGreat.Ty
open Go Go.VM
set_option maxRecDepth 100000
theorem cells_3 : Tryz.prog.cellsOf 3 = 1 := by kernel_rfl
theorem bytes_3 : Tryz.prog.bytesOf 3 = 8 := by kernel_rfl
theorem scal_3 : isScalarT Tryz.prog 3 = true := by kernel_rfl
theorem zero_3 : zeroV Tryz.prog 3 = some (.int .i64 0) := by kernel_rfl
theorem cells_4 : Tryz.prog.cellsOf 4 = 1 := by kernel_rfl
theorem bytes_4 : Tryz.prog.bytesOf 4 = 1 := by kernel_rfl
theorem scal_4 : isScalarT Tryz.prog 4 = true := by kernel_rfl
theorem zero_4 : zeroV Tryz.prog 4 = some (.bool false) := by kernel_rfl
theorem cells_5 : Tryz.prog.cellsOf 5 = 1 := by kernel_rfl
theorem bytes_5 : Tryz.prog.bytesOf 5 = 1 := by kernel_rfl
theorem scal_5 : isScalarT Tryz.prog 5 = true := by kernel_rfl
theorem zero_5 : zeroV Tryz.prog 5 = some (.int .u8 0) := by kernel_rfl
theorem cells_9 : Tryz.prog.cellsOf 9 = 1 := by kernel_rfl
theorem bytes_9 : Tryz.prog.bytesOf 9 = 16 := by kernel_rfl
theorem scal_9 : isScalarT Tryz.prog 9 = true := by kernel_rfl
theorem zero_9 : zeroV Tryz.prog 9 = some (.str []) := by kernel_rfl
theorem cells_22 : Tryz.prog.cellsOf 22 = 1 := by kernel_rfl
theorem bytes_22 : Tryz.prog.bytesOf 22 = 24 := by kernel_rfl
theorem scal_22 : isScalarT Tryz.prog 22 = true := by kernel_rfl
theorem zero_22 : zeroV Tryz.prog 22 = some (.nils 1) := by kernel_rfl
theorem cells_24 : Tryz.prog.cellsOf 24 = 1 := by kernel_rfl
theorem bytes_24 : Tryz.prog.bytesOf 24 = 24 := by kernel_rfl
theorem scal_24 : isScalarT Tryz.prog 24 = true := by kernel_rfl
theorem zero_24 : zeroV Tryz.prog 24 = some (.nils 7) := by kernel_rfl
theorem cells_26 : Tryz.prog.cellsOf 26 = 2 := by kernel_rfl
theorem bytes_26 : Tryz.prog.bytesOf 26 = 32 := by kernel_rfl
theorem str_26 : isStruct Tryz.prog 26 = true := by kernel_rfl
theorem ff_26 : fieldsFlat Tryz.prog 26 = true := by kernel_rfl
theorem fld_26_0 : fieldAt Tryz.prog 26 0 = true := by kernel_rfl
theorem sfld_26_0 : scalarField Tryz.prog 26 0 = true := by kernel_rfl
theorem fld_26_1 : fieldAt Tryz.prog 26 1 = true := by kernel_rfl
theorem sfld_26_1 : scalarField Tryz.prog 26 1 = true := by kernel_rfl
theorem zero_26 : zeroV Tryz.prog 26 = some (.agg [.nils 7, .int .i64 0]) := by kernel_rfl
theorem cells_28 : Tryz.prog.cellsOf 28 = 1 := by kernel_rfl
theorem bytes_28 : Tryz.prog.bytesOf 28 = 24 := by kernel_rfl
theorem scal_28 : isScalarT Tryz.prog 28 = true := by kernel_rfl
theorem zero_28 : zeroV Tryz.prog 28 = some (.nils 2) := by kernel_rfl
theorem cells_30 : Tryz.prog.cellsOf 30 = 8 := by kernel_rfl
theorem bytes_30 : Tryz.prog.bytesOf 30 = 104 := by kernel_rfl
theorem str_30 : isStruct Tryz.prog 30 = true := by kernel_rfl
theorem ff_30 : fieldsFlat Tryz.prog 30 = true := by kernel_rfl
theorem fld_30_0 : fieldAt Tryz.prog 30 0 = true := by kernel_rfl
theorem sfld_30_0 : scalarField Tryz.prog 30 0 = true := by kernel_rfl
theorem fld_30_1 : fieldAt Tryz.prog 30 1 = true := by kernel_rfl
theorem sfld_30_1 : scalarField Tryz.prog 30 1 = true := by kernel_rfl
theorem fld_30_2 : fieldAt Tryz.prog 30 2 = true := by kernel_rfl
theorem sfld_30_2 : scalarField Tryz.prog 30 2 = true := by kernel_rfl
theorem fld_30_3 : fieldAt Tryz.prog 30 3 = true := by kernel_rfl
theorem sfld_30_3 : scalarField Tryz.prog 30 3 = true := by kernel_rfl
theorem fld_30_4 : fieldAt Tryz.prog 30 4 = true := by kernel_rfl
theorem sfld_30_4 : scalarField Tryz.prog 30 4 = true := by kernel_rfl
theorem fld_30_5 : fieldAt Tryz.prog 30 5 = true := by kernel_rfl
theorem sfld_30_5 : scalarField Tryz.prog 30 5 = true := by kernel_rfl
theorem fld_30_6 : fieldAt Tryz.prog 30 6 = true := by kernel_rfl
theorem sfld_30_6 : scalarField Tryz.prog 30 6 = true := by kernel_rfl
theorem fld_30_7 : fieldAt Tryz.prog 30 7 = true := by kernel_rfl
theorem sfld_30_7 : scalarField Tryz.prog 30 7 = true := by kernel_rfl
theorem zero_30 : zeroV Tryz.prog 30 = some (.agg [.int .i64 0, .str [], .str [], .nils 2, .int .i64 0, .int .i64 0, .int .i64 0, .str []]) := by kernel_rfl
theorem cells_34 : Tryz.prog.cellsOf 34 = 1 := by kernel_rfl
theorem bytes_34 : Tryz.prog.bytesOf 34 = 24 := by kernel_rfl
theorem scal_34 : isScalarT Tryz.prog 34 = true := by kernel_rfl
theorem zero_34 : zeroV Tryz.prog 34 = some (.nils 4) := by kernel_rfl
theorem cells_35 : Tryz.prog.cellsOf 35 = 1 := by kernel_rfl
theorem bytes_35 : Tryz.prog.bytesOf 35 = 24 := by kernel_rfl
theorem scal_35 : isScalarT Tryz.prog 35 = true := by kernel_rfl
theorem zero_35 : zeroV Tryz.prog 35 = some (.nils 2) := by kernel_rfl
theorem cells_37 : Tryz.prog.cellsOf 37 = 7 := by kernel_rfl
theorem bytes_37 : Tryz.prog.bytesOf 37 = 96 := by kernel_rfl
theorem str_37 : isStruct Tryz.prog 37 = true := by kernel_rfl
theorem ff_37 : fieldsFlat Tryz.prog 37 = true := by kernel_rfl
theorem fld_37_0 : fieldAt Tryz.prog 37 0 = true := by kernel_rfl
theorem sfld_37_0 : scalarField Tryz.prog 37 0 = true := by kernel_rfl
theorem fld_37_1 : fieldAt Tryz.prog 37 1 = true := by kernel_rfl
theorem sfld_37_1 : scalarField Tryz.prog 37 1 = true := by kernel_rfl
theorem fld_37_2 : fieldAt Tryz.prog 37 2 = true := by kernel_rfl
theorem sfld_37_2 : scalarField Tryz.prog 37 2 = true := by kernel_rfl
theorem fld_37_3 : fieldAt Tryz.prog 37 3 = true := by kernel_rfl
theorem sfld_37_3 : scalarField Tryz.prog 37 3 = true := by kernel_rfl
theorem fld_37_4 : fieldAt Tryz.prog 37 4 = true := by kernel_rfl
theorem sfld_37_4 : scalarField Tryz.prog 37 4 = true := by kernel_rfl
theorem fld_37_5 : fieldAt Tryz.prog 37 5 = true := by kernel_rfl
theorem sfld_37_5 : scalarField Tryz.prog 37 5 = true := by kernel_rfl
theorem fld_37_6 : fieldAt Tryz.prog 37 6 = true := by kernel_rfl
theorem sfld_37_6 : scalarField Tryz.prog 37 6 = true := by kernel_rfl
theorem zero_37 : zeroV Tryz.prog 37 = some (.agg [.str [], .int .i64 0, .int .i64 0, .int .i64 0, .nils 4, .nils 2, .int .i64 0]) := by kernel_rfl
theorem cells_83 : Tryz.prog.cellsOf 83 = 3 := by kernel_rfl
theorem bytes_83 : Tryz.prog.bytesOf 83 = 40 := by kernel_rfl
theorem str_83 : isStruct Tryz.prog 83 = true := by kernel_rfl
theorem ff_83 : fieldsFlat Tryz.prog 83 = true := by kernel_rfl
theorem fld_83_0 : fieldAt Tryz.prog 83 0 = true := by kernel_rfl
theorem sfld_83_0 : scalarField Tryz.prog 83 0 = true := by kernel_rfl
theorem fld_83_1 : fieldAt Tryz.prog 83 1 = true := by kernel_rfl
theorem sfld_83_1 : scalarField Tryz.prog 83 1 = true := by kernel_rfl
theorem fld_83_2 : fieldAt Tryz.prog 83 2 = true := by kernel_rfl
theorem sfld_83_2 : scalarField Tryz.prog 83 2 = true := by kernel_rfl
theorem zero_83 : zeroV Tryz.prog 83 = some (.agg [.nils 1, .int .i64 0, .int .i64 0]) := by kernel_rfl
theorem cells_85 : Tryz.prog.cellsOf 85 = 1 := by kernel_rfl
theorem bytes_85 : Tryz.prog.bytesOf 85 = 24 := by kernel_rfl
theorem scal_85 : isScalarT Tryz.prog 85 = true := by kernel_rfl
theorem zero_85 : zeroV Tryz.prog 85 = some (.nils 1) := by kernel_rfl
theorem cells_87 : Tryz.prog.cellsOf 87 = 1 := by kernel_rfl
theorem bytes_87 : Tryz.prog.bytesOf 87 = 24 := by kernel_rfl
theorem scal_87 : isScalarT Tryz.prog 87 = true := by kernel_rfl
theorem zero_87 : zeroV Tryz.prog 87 = some (.nils 1) := by kernel_rfl
theorem cells_91 : Tryz.prog.cellsOf 91 = 2 := by kernel_rfl
theorem bytes_91 : Tryz.prog.bytesOf 91 = 16 := by kernel_rfl
theorem str_91 : isStruct Tryz.prog 91 = true := by kernel_rfl
theorem ff_91 : fieldsFlat Tryz.prog 91 = true := by kernel_rfl
theorem fld_91_0 : fieldAt Tryz.prog 91 0 = true := by kernel_rfl
theorem sfld_91_0 : scalarField Tryz.prog 91 0 = true := by kernel_rfl
theorem fld_91_1 : fieldAt Tryz.prog 91 1 = true := by kernel_rfl
theorem sfld_91_1 : scalarField Tryz.prog 91 1 = true := by kernel_rfl
theorem zero_91 : zeroV Tryz.prog 91 = some (.agg [.int .i64 0, .int .i64 0]) := by kernel_rfl
theorem cells_99 : Tryz.prog.cellsOf 99 = 4 := by kernel_rfl
theorem bytes_99 : Tryz.prog.bytesOf 99 = 40 := by kernel_rfl
theorem str_99 : isStruct Tryz.prog 99 = true := by kernel_rfl
theorem ff_99 : fieldsFlat Tryz.prog 99 = true := by kernel_rfl
theorem fld_99_0 : fieldAt Tryz.prog 99 0 = true := by kernel_rfl
theorem sfld_99_0 : scalarField Tryz.prog 99 0 = true := by kernel_rfl
theorem fld_99_1 : fieldAt Tryz.prog 99 1 = true := by kernel_rfl
theorem sfld_99_1 : scalarField Tryz.prog 99 1 = true := by kernel_rfl
theorem fld_99_2 : fieldAt Tryz.prog 99 2 = true := by kernel_rfl
theorem sfld_99_2 : scalarField Tryz.prog 99 2 = true := by kernel_rfl
theorem fld_99_3 : fieldAt Tryz.prog 99 3 = true := by kernel_rfl
theorem sfld_99_3 : scalarField Tryz.prog 99 3 = true := by kernel_rfl
theorem zero_99 : zeroV Tryz.prog 99 = some (.agg [.int .i64 0, .int .i64 0, .int .i64 0, .str []]) := by kernel_rfl
theorem cells_133 : Tryz.prog.cellsOf 133 = 2 := by kernel_rfl
theorem bytes_133 : Tryz.prog.bytesOf 133 = 16 := by kernel_rfl
theorem str_133 : isStruct Tryz.prog 133 = true := by kernel_rfl
theorem ff_133 : fieldsFlat Tryz.prog 133 = true := by kernel_rfl
theorem fld_133_0 : fieldAt Tryz.prog 133 0 = true := by kernel_rfl
theorem sfld_133_0 : scalarField Tryz.prog 133 0 = true := by kernel_rfl
theorem fld_133_1 : fieldAt Tryz.prog 133 1 = true := by kernel_rfl
theorem sfld_133_1 : scalarField Tryz.prog 133 1 = true := by kernel_rfl
theorem zero_133 : zeroV Tryz.prog 133 = some (.agg [.int .i64 0, .int .i64 0]) := by kernel_rfl
theorem cells_148 : Tryz.prog.cellsOf 148 = 1 := by kernel_rfl
theorem bytes_148 : Tryz.prog.bytesOf 148 = 8 := by kernel_rfl
theorem scal_148 : isScalarT Tryz.prog 148 = true := by kernel_rfl
theorem zero_148 : zeroV Tryz.prog 148 = some (.int .u64 0) := by kernel_rfl
theorem cells_158 : Tryz.prog.cellsOf 158 = 1 := by kernel_rfl
theorem bytes_158 : Tryz.prog.bytesOf 158 = 24 := by kernel_rfl
theorem scal_158 : isScalarT Tryz.prog 158 = true := by kernel_rfl
theorem zero_158 : zeroV Tryz.prog 158 = some (.nils 1) := by kernel_rfl
attribute [go_sem] Tryz.underlying3 Tryz.underlying4 Tryz.underlying5 Tryz.underlying9 Tryz.underlying22 Tryz.underlying24 Tryz.underlying26 Tryz.underlying28 Tryz.underlying30 Tryz.underlying34 Tryz.underlying35 Tryz.underlying37 Tryz.underlying83 Tryz.underlying85 Tryz.underlying87 Tryz.underlying91 Tryz.underlying99 Tryz.underlying133 Tryz.underlying148 Tryz.underlying158 cells_3 bytes_3 scal_3 zero_3 cells_4 bytes_4 scal_4 zero_4 cells_5 bytes_5 scal_5 zero_5 cells_9 bytes_9 scal_9 zero_9 cells_22 bytes_22 scal_22 zero_22 cells_24 bytes_24 scal_24 zero_24 cells_26 bytes_26 str_26 ff_26 fld_26_0 fld_26_1 sfld_26_0 sfld_26_1 zero_26 cells_28 bytes_28 scal_28 zero_28 cells_30 bytes_30 str_30 ff_30 fld_30_0 fld_30_1 fld_30_2 fld_30_3 fld_30_4 fld_30_5 fld_30_6 fld_30_7 sfld_30_0 sfld_30_1 sfld_30_2 sfld_30_3 sfld_30_4 sfld_30_5 sfld_30_6 sfld_30_7 zero_30 cells_34 bytes_34 scal_34 zero_34 cells_35 bytes_35 scal_35 zero_35 cells_37 bytes_37 str_37 ff_37 fld_37_0 fld_37_1 fld_37_2 fld_37_3 fld_37_4 fld_37_5 fld_37_6 sfld_37_0 sfld_37_1 sfld_37_2 sfld_37_3 sfld_37_4 sfld_37_5 sfld_37_6 zero_37 cells_83 bytes_83 str_83 ff_83 fld_83_0 fld_83_1 fld_83_2 sfld_83_0 sfld_83_1 sfld_83_2 zero_83 cells_85 bytes_85 scal_85 zero_85 cells_87 bytes_87 scal_87 zero_87 cells_91 bytes_91 str_91 ff_91 fld_91_0 fld_91_1 sfld_91_0 sfld_91_1 zero_91 cells_99 bytes_99 str_99 ff_99 fld_99_0 fld_99_1 fld_99_2 fld_99_3 sfld_99_0 sfld_99_1 sfld_99_2 sfld_99_3 zero_99 cells_133 bytes_133 str_133 ff_133 fld_133_0 fld_133_1 sfld_133_0 sfld_133_1 zero_133 cells_148 bytes_148 scal_148 zero_148 cells_158 bytes_158 scal_158 zero_158
end Go.Proofs.YtjkhhplhjbmhjaaGreat.Ty
