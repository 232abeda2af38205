/- Facts on the types of the program, each looked up in it. -/
import Derived.Test.YtjkhhplhjbmhjaaGreatVmSet
import Derived.Test.YtjkhhplhjbmhjaaGreatProg
import Derived.KernelRfl
namespace Go.Proofs.YtjkhhplhjbmhjaaGreat.Ty
open Go Go.VM
set_option maxRecDepth 100000
theorem cells_3 : Tryz.prog.cellsOf 3 = 1 := by kernel_rfl
theorem bytes_3 : Tryz.prog.bytesOf 3 = 8 := by kernel_rfl
theorem scal_3 : isScalarT Tryz.prog 3 = true := by kernel_rfl
theorem zero_3 : zeroV Tryz.prog 3 = some (.int .i64 0) := by kernel_rfl
theorem cells_4 : Tryz.prog.cellsOf 4 = 1 := by kernel_rfl
theorem bytes_4 : Tryz.prog.bytesOf 4 = 1 := by kernel_rfl
theorem scal_4 : isScalarT Tryz.prog 4 = true := by kernel_rfl
theorem zero_4 : zeroV Tryz.prog 4 = some (.bool false) := by kernel_rfl
theorem cells_5 : Tryz.prog.cellsOf 5 = 1 := by kernel_rfl
theorem bytes_5 : Tryz.prog.bytesOf 5 = 1 := by kernel_rfl
theorem scal_5 : isScalarT Tryz.prog 5 = true := by kernel_rfl
theorem zero_5 : zeroV Tryz.prog 5 = some (.int .u8 0) := by kernel_rfl
theorem cells_9 : Tryz.prog.cellsOf 9 = 1 := by kernel_rfl
theorem bytes_9 : Tryz.prog.bytesOf 9 = 16 := by kernel_rfl
theorem scal_9 : isScalarT Tryz.prog 9 = true := by kernel_rfl
theorem zero_9 : zeroV Tryz.prog 9 = some (.str []) := by kernel_rfl
theorem cells_22 : Tryz.prog.cellsOf 22 = 1 := by kernel_rfl
theorem bytes_22 : Tryz.prog.bytesOf 22 = 24 := by kernel_rfl
theorem scal_22 : isScalarT Tryz.prog 22 = true := by kernel_rfl
theorem zero_22 : zeroV Tryz.prog 22 = some (.nils 1) := by kernel_rfl
theorem cells_24 : Tryz.prog.cellsOf 24 = 1 := by kernel_rfl
theorem bytes_24 : Tryz.prog.bytesOf 24 = 24 := by kernel_rfl
theorem scal_24 : isScalarT Tryz.prog 24 = true := by kernel_rfl
theorem zero_24 : zeroV Tryz.prog 24 = some (.nils 7) := by kernel_rfl
theorem cells_26 : Tryz.prog.cellsOf 26 = 2 := by kernel_rfl
theorem bytes_26 : Tryz.prog.bytesOf 26 = 32 := by kernel_rfl
theorem str_26 : isStruct Tryz.prog 26 = true := by kernel_rfl
theorem ff_26 : fieldsFlat Tryz.prog 26 = true := by kernel_rfl
theorem fld_26_0 : fieldAt Tryz.prog 26 0 = true := by kernel_rfl
theorem sfld_26_0 : scalarField Tryz.prog 26 0 = true := by kernel_rfl
theorem fld_26_1 : fieldAt Tryz.prog 26 1 = true := by kernel_rfl
theorem sfld_26_1 : scalarField Tryz.prog 26 1 = true := by kernel_rfl
theorem zero_26 : zeroV Tryz.prog 26 = some (.agg [.nils 7, .int .i64 0]) := by kernel_rfl
theorem cells_28 : Tryz.prog.cellsOf 28 = 1 := by kernel_rfl
theorem bytes_28 : Tryz.prog.bytesOf 28 = 24 := by kernel_rfl
theorem scal_28 : isScalarT Tryz.prog 28 = true := by kernel_rfl
theorem zero_28 : zeroV Tryz.prog 28 = some (.nils 2) := by kernel_rfl
theorem cells_30 : Tryz.prog.cellsOf 30 = 8 := by kernel_rfl
theorem bytes_30 : Tryz.prog.bytesOf 30 = 104 := by kernel_rfl
theorem str_30 : isStruct Tryz.prog 30 = true := by kernel_rfl
theorem ff_30 : fieldsFlat Tryz.prog 30 = true := by kernel_rfl
theorem fld_30_0 : fieldAt Tryz.prog 30 0 = true := by kernel_rfl
theorem sfld_30_0 : scalarField Tryz.prog 30 0 = true := by kernel_rfl
theorem fld_30_1 : fieldAt Tryz.prog 30 1 = true := by kernel_rfl
theorem sfld_30_1 : scalarField Tryz.prog 30 1 = true := by kernel_rfl
theorem fld_30_2 : fieldAt Tryz.prog 30 2 = true := by kernel_rfl
theorem sfld_30_2 : scalarField Tryz.prog 30 2 = true := by kernel_rfl
theorem fld_30_3 : fieldAt Tryz.prog 30 3 = true := by kernel_rfl
theorem sfld_30_3 : scalarField Tryz.prog 30 3 = true := by kernel_rfl
theorem fld_30_4 : fieldAt Tryz.prog 30 4 = true := by kernel_rfl
theorem sfld_30_4 : scalarField Tryz.prog 30 4 = true := by kernel_rfl
theorem fld_30_5 : fieldAt Tryz.prog 30 5 = true := by kernel_rfl
theorem sfld_30_5 : scalarField Tryz.prog 30 5 = true := by kernel_rfl
theorem fld_30_6 : fieldAt Tryz.prog 30 6 = true := by kernel_rfl
theorem sfld_30_6 : scalarField Tryz.prog 30 6 = true := by kernel_rfl
theorem fld_30_7 : fieldAt Tryz.prog 30 7 = true := by kernel_rfl
theorem sfld_30_7 : scalarField Tryz.prog 30 7 = true := by kernel_rfl
theorem zero_30 : zeroV Tryz.prog 30 = some (.agg [.int .i64 0, .str [], .str [], .nils 2, .int .i64 0, .int .i64 0, .int .i64 0, .str []]) := by kernel_rfl
theorem cells_34 : Tryz.prog.cellsOf 34 = 1 := by kernel_rfl
theorem bytes_34 : Tryz.prog.bytesOf 34 = 24 := by kernel_rfl
theorem scal_34 : isScalarT Tryz.prog 34 = true := by kernel_rfl
theorem zero_34 : zeroV Tryz.prog 34 = some (.nils 4) := by kernel_rfl
theorem cells_35 : Tryz.prog.cellsOf 35 = 1 := by kernel_rfl
theorem bytes_35 : Tryz.prog.bytesOf 35 = 24 := by kernel_rfl
theorem scal_35 : isScalarT Tryz.prog 35 = true := by kernel_rfl
theorem zero_35 : zeroV Tryz.prog 35 = some (.nils 2) := by kernel_rfl
theorem cells_37 : Tryz.prog.cellsOf 37 = 7 := by kernel_rfl
theorem bytes_37 : Tryz.prog.bytesOf 37 = 96 := by kernel_rfl
theorem str_37 : isStruct Tryz.prog 37 = true := by kernel_rfl
theorem ff_37 : fieldsFlat Tryz.prog 37 = true := by kernel_rfl
theorem fld_37_0 : fieldAt Tryz.prog 37 0 = true := by kernel_rfl
theorem sfld_37_0 : scalarField Tryz.prog 37 0 = true := by kernel_rfl
theorem fld_37_1 : fieldAt Tryz.prog 37 1 = true := by kernel_rfl
theorem sfld_37_1 : scalarField Tryz.prog 37 1 = true := by kernel_rfl
theorem fld_37_2 : fieldAt Tryz.prog 37 2 = true := by kernel_rfl
theorem sfld_37_2 : scalarField Tryz.prog 37 2 = true := by kernel_rfl
theorem fld_37_3 : fieldAt Tryz.prog 37 3 = true := by kernel_rfl
theorem sfld_37_3 : scalarField Tryz.prog 37 3 = true := by kernel_rfl
theorem fld_37_4 : fieldAt Tryz.prog 37 4 = true := by kernel_rfl
theorem sfld_37_4 : scalarField Tryz.prog 37 4 = true := by kernel_rfl
theorem fld_37_5 : fieldAt Tryz.prog 37 5 = true := by kernel_rfl
theorem sfld_37_5 : scalarField Tryz.prog 37 5 = true := by kernel_rfl
theorem fld_37_6 : fieldAt Tryz.prog 37 6 = true := by kernel_rfl
theorem sfld_37_6 : scalarField Tryz.prog 37 6 = true := by kernel_rfl
theorem zero_37 : zeroV Tryz.prog 37 = some (.agg [.str [], .int .i64 0, .int .i64 0, .int .i64 0, .nils 4, .nils 2, .int .i64 0]) := by kernel_rfl
theorem cells_41 : Tryz.prog.cellsOf 41 = 1 := by kernel_rfl
theorem bytes_41 : Tryz.prog.bytesOf 41 = 24 := by kernel_rfl
theorem scal_41 : isScalarT Tryz.prog 41 = true := by kernel_rfl
theorem zero_41 : zeroV Tryz.prog 41 = some (.nils 7) := by kernel_rfl
theorem cells_43 : Tryz.prog.cellsOf 43 = 2 := by kernel_rfl
theorem bytes_43 : Tryz.prog.bytesOf 43 = 32 := by kernel_rfl
theorem str_43 : isStruct Tryz.prog 43 = true := by kernel_rfl
theorem ff_43 : fieldsFlat Tryz.prog 43 = true := by kernel_rfl
theorem fld_43_0 : fieldAt Tryz.prog 43 0 = true := by kernel_rfl
theorem sfld_43_0 : scalarField Tryz.prog 43 0 = true := by kernel_rfl
theorem fld_43_1 : fieldAt Tryz.prog 43 1 = true := by kernel_rfl
theorem sfld_43_1 : scalarField Tryz.prog 43 1 = true := by kernel_rfl
theorem zero_43 : zeroV Tryz.prog 43 = some (.agg [.nils 7, .int .i64 0]) := by kernel_rfl
theorem cells_44 : Tryz.prog.cellsOf 44 = 1 := by kernel_rfl
theorem bytes_44 : Tryz.prog.bytesOf 44 = 24 := by kernel_rfl
theorem scal_44 : isScalarT Tryz.prog 44 = true := by kernel_rfl
theorem zero_44 : zeroV Tryz.prog 44 = some (.nils 2) := by kernel_rfl
theorem cells_46 : Tryz.prog.cellsOf 46 = 8 := by kernel_rfl
theorem bytes_46 : Tryz.prog.bytesOf 46 = 104 := by kernel_rfl
theorem str_46 : isStruct Tryz.prog 46 = true := by kernel_rfl
theorem ff_46 : fieldsFlat Tryz.prog 46 = true := by kernel_rfl
theorem fld_46_0 : fieldAt Tryz.prog 46 0 = true := by kernel_rfl
theorem sfld_46_0 : scalarField Tryz.prog 46 0 = true := by kernel_rfl
theorem fld_46_1 : fieldAt Tryz.prog 46 1 = true := by kernel_rfl
theorem sfld_46_1 : scalarField Tryz.prog 46 1 = true := by kernel_rfl
theorem fld_46_2 : fieldAt Tryz.prog 46 2 = true := by kernel_rfl
theorem sfld_46_2 : scalarField Tryz.prog 46 2 = true := by kernel_rfl
theorem fld_46_3 : fieldAt Tryz.prog 46 3 = true := by kernel_rfl
theorem sfld_46_3 : scalarField Tryz.prog 46 3 = true := by kernel_rfl
theorem fld_46_4 : fieldAt Tryz.prog 46 4 = true := by kernel_rfl
theorem sfld_46_4 : scalarField Tryz.prog 46 4 = true := by kernel_rfl
theorem fld_46_5 : fieldAt Tryz.prog 46 5 = true := by kernel_rfl
theorem sfld_46_5 : scalarField Tryz.prog 46 5 = true := by kernel_rfl
theorem fld_46_6 : fieldAt Tryz.prog 46 6 = true := by kernel_rfl
theorem sfld_46_6 : scalarField Tryz.prog 46 6 = true := by kernel_rfl
theorem fld_46_7 : fieldAt Tryz.prog 46 7 = true := by kernel_rfl
theorem sfld_46_7 : scalarField Tryz.prog 46 7 = true := by kernel_rfl
theorem zero_46 : zeroV Tryz.prog 46 = some (.agg [.int .i64 0, .str [], .str [], .nils 2, .int .i64 0, .int .i64 0, .int .i64 0, .str []]) := by kernel_rfl
theorem cells_85 : Tryz.prog.cellsOf 85 = 1 := by kernel_rfl
theorem bytes_85 : Tryz.prog.bytesOf 85 = 24 := by kernel_rfl
theorem scal_85 : isScalarT Tryz.prog 85 = true := by kernel_rfl
theorem zero_85 : zeroV Tryz.prog 85 = some (.nils 1) := by kernel_rfl
theorem cells_91 : Tryz.prog.cellsOf 91 = 2 := by kernel_rfl
theorem bytes_91 : Tryz.prog.bytesOf 91 = 16 := by kernel_rfl
theorem str_91 : isStruct Tryz.prog 91 = true := by kernel_rfl
theorem ff_91 : fieldsFlat Tryz.prog 91 = true := by kernel_rfl
theorem fld_91_0 : fieldAt Tryz.prog 91 0 = true := by kernel_rfl
theorem sfld_91_0 : scalarField Tryz.prog 91 0 = true := by kernel_rfl
theorem fld_91_1 : fieldAt Tryz.prog 91 1 = true := by kernel_rfl
theorem sfld_91_1 : scalarField Tryz.prog 91 1 = true := by kernel_rfl
theorem zero_91 : zeroV Tryz.prog 91 = some (.agg [.int .i64 0, .int .i64 0]) := by kernel_rfl
theorem cells_99 : Tryz.prog.cellsOf 99 = 4 := by kernel_rfl
theorem bytes_99 : Tryz.prog.bytesOf 99 = 40 := by kernel_rfl
theorem str_99 : isStruct Tryz.prog 99 = true := by kernel_rfl
theorem ff_99 : fieldsFlat Tryz.prog 99 = true := by kernel_rfl
theorem fld_99_0 : fieldAt Tryz.prog 99 0 = true := by kernel_rfl
theorem sfld_99_0 : scalarField Tryz.prog 99 0 = true := by kernel_rfl
theorem fld_99_1 : fieldAt Tryz.prog 99 1 = true := by kernel_rfl
theorem sfld_99_1 : scalarField Tryz.prog 99 1 = true := by kernel_rfl
theorem fld_99_2 : fieldAt Tryz.prog 99 2 = true := by kernel_rfl
theorem sfld_99_2 : scalarField Tryz.prog 99 2 = true := by kernel_rfl
theorem fld_99_3 : fieldAt Tryz.prog 99 3 = true := by kernel_rfl
theorem sfld_99_3 : scalarField Tryz.prog 99 3 = true := by kernel_rfl
theorem zero_99 : zeroV Tryz.prog 99 = some (.agg [.int .i64 0, .int .i64 0, .int .i64 0, .str []]) := by kernel_rfl
theorem cells_111 : Tryz.prog.cellsOf 111 = 1 := by kernel_rfl
theorem bytes_111 : Tryz.prog.bytesOf 111 = 24 := by kernel_rfl
theorem scal_111 : isScalarT Tryz.prog 111 = true := by kernel_rfl
theorem zero_111 : zeroV Tryz.prog 111 = some (.nils 4) := by kernel_rfl
theorem cells_112 : Tryz.prog.cellsOf 112 = 1 := by kernel_rfl
theorem bytes_112 : Tryz.prog.bytesOf 112 = 24 := by kernel_rfl
theorem scal_112 : isScalarT Tryz.prog 112 = true := by kernel_rfl
theorem zero_112 : zeroV Tryz.prog 112 = some (.nils 2) := by kernel_rfl
theorem cells_114 : Tryz.prog.cellsOf 114 = 7 := by kernel_rfl
theorem bytes_114 : Tryz.prog.bytesOf 114 = 96 := by kernel_rfl
theorem str_114 : isStruct Tryz.prog 114 = true := by kernel_rfl
theorem ff_114 : fieldsFlat Tryz.prog 114 = true := by kernel_rfl
theorem fld_114_0 : fieldAt Tryz.prog 114 0 = true := by kernel_rfl
theorem sfld_114_0 : scalarField Tryz.prog 114 0 = true := by kernel_rfl
theorem fld_114_1 : fieldAt Tryz.prog 114 1 = true := by kernel_rfl
theorem sfld_114_1 : scalarField Tryz.prog 114 1 = true := by kernel_rfl
theorem fld_114_2 : fieldAt Tryz.prog 114 2 = true := by kernel_rfl
theorem sfld_114_2 : scalarField Tryz.prog 114 2 = true := by kernel_rfl
theorem fld_114_3 : fieldAt Tryz.prog 114 3 = true := by kernel_rfl
theorem sfld_114_3 : scalarField Tryz.prog 114 3 = true := by kernel_rfl
theorem fld_114_4 : fieldAt Tryz.prog 114 4 = true := by kernel_rfl
theorem sfld_114_4 : scalarField Tryz.prog 114 4 = true := by kernel_rfl
theorem fld_114_5 : fieldAt Tryz.prog 114 5 = true := by kernel_rfl
theorem sfld_114_5 : scalarField Tryz.prog 114 5 = true := by kernel_rfl
theorem fld_114_6 : fieldAt Tryz.prog 114 6 = true := by kernel_rfl
theorem sfld_114_6 : scalarField Tryz.prog 114 6 = true := by kernel_rfl
theorem zero_114 : zeroV Tryz.prog 114 = some (.agg [.str [], .int .i64 0, .int .i64 0, .int .i64 0, .nils 4, .nils 2, .int .i64 0]) := by kernel_rfl
theorem cells_118 : Tryz.prog.cellsOf 118 = 2 := by kernel_rfl
theorem bytes_118 : Tryz.prog.bytesOf 118 = 16 := by kernel_rfl
theorem str_118 : isStruct Tryz.prog 118 = true := by kernel_rfl
theorem ff_118 : fieldsFlat Tryz.prog 118 = true := by kernel_rfl
theorem fld_118_0 : fieldAt Tryz.prog 118 0 = true := by kernel_rfl
theorem sfld_118_0 : scalarField Tryz.prog 118 0 = true := by kernel_rfl
theorem fld_118_1 : fieldAt Tryz.prog 118 1 = true := by kernel_rfl
theorem sfld_118_1 : scalarField Tryz.prog 118 1 = true := by kernel_rfl
theorem zero_118 : zeroV Tryz.prog 118 = some (.agg [.int .i64 0, .int .i64 0]) := by kernel_rfl
theorem cells_133 : Tryz.prog.cellsOf 133 = 2 := by kernel_rfl
theorem bytes_133 : Tryz.prog.bytesOf 133 = 16 := by kernel_rfl
theorem str_133 : isStruct Tryz.prog 133 = true := by kernel_rfl
theorem ff_133 : fieldsFlat Tryz.prog 133 = true := by kernel_rfl
theorem fld_133_0 : fieldAt Tryz.prog 133 0 = true := by kernel_rfl
theorem sfld_133_0 : scalarField Tryz.prog 133 0 = true := by kernel_rfl
theorem fld_133_1 : fieldAt Tryz.prog 133 1 = true := by kernel_rfl
theorem sfld_133_1 : scalarField Tryz.prog 133 1 = true := by kernel_rfl
theorem zero_133 : zeroV Tryz.prog 133 = some (.agg [.int .i64 0, .int .i64 0]) := by kernel_rfl
theorem cells_152 : Tryz.prog.cellsOf 152 = 4 := by kernel_rfl
theorem bytes_152 : Tryz.prog.bytesOf 152 = 40 := by kernel_rfl
theorem str_152 : isStruct Tryz.prog 152 = true := by kernel_rfl
theorem ff_152 : fieldsFlat Tryz.prog 152 = true := by kernel_rfl
theorem fld_152_0 : fieldAt Tryz.prog 152 0 = true := by kernel_rfl
theorem sfld_152_0 : scalarField Tryz.prog 152 0 = true := by kernel_rfl
theorem fld_152_1 : fieldAt Tryz.prog 152 1 = true := by kernel_rfl
theorem sfld_152_1 : scalarField Tryz.prog 152 1 = true := by kernel_rfl
theorem fld_152_2 : fieldAt Tryz.prog 152 2 = true := by kernel_rfl
theorem sfld_152_2 : scalarField Tryz.prog 152 2 = true := by kernel_rfl
theorem fld_152_3 : fieldAt Tryz.prog 152 3 = true := by kernel_rfl
theorem sfld_152_3 : scalarField Tryz.prog 152 3 = true := by kernel_rfl
theorem zero_152 : zeroV Tryz.prog 152 = some (.agg [.int .i64 0, .int .i64 0, .int .i64 0, .str []]) := by kernel_rfl
theorem cells_155 : Tryz.prog.cellsOf 155 = 2 := by kernel_rfl
theorem bytes_155 : Tryz.prog.bytesOf 155 = 16 := by kernel_rfl
theorem str_155 : isStruct Tryz.prog 155 = true := by kernel_rfl
theorem ff_155 : fieldsFlat Tryz.prog 155 = true := by kernel_rfl
theorem fld_155_0 : fieldAt Tryz.prog 155 0 = true := by kernel_rfl
theorem sfld_155_0 : scalarField Tryz.prog 155 0 = true := by kernel_rfl
theorem fld_155_1 : fieldAt Tryz.prog 155 1 = true := by kernel_rfl
theorem sfld_155_1 : scalarField Tryz.prog 155 1 = true := by kernel_rfl
theorem zero_155 : zeroV Tryz.prog 155 = some (.agg [.int .i64 0, .int .i64 0]) := by kernel_rfl
theorem cells_158 : Tryz.prog.cellsOf 158 = 1 := by kernel_rfl
theorem bytes_158 : Tryz.prog.bytesOf 158 = 24 := by kernel_rfl
theorem scal_158 : isScalarT Tryz.prog 158 = true := by kernel_rfl
theorem zero_158 : zeroV Tryz.prog 158 = some (.nils 1) := by kernel_rfl
attribute [go_sem] Tryz.underlying3 Tryz.underlying4 Tryz.underlying5 Tryz.underlying9 Tryz.underlying22 Tryz.underlying24 Tryz.underlying26 Tryz.underlying28 Tryz.underlying30 Tryz.underlying34 Tryz.underlying35 Tryz.underlying37 Tryz.underlying41 Tryz.underlying43 Tryz.underlying44 Tryz.underlying46 Tryz.underlying85 Tryz.underlying91 Tryz.underlying99 Tryz.underlying111 Tryz.underlying112 Tryz.underlying114 Tryz.underlying118 Tryz.underlying133 Tryz.underlying152 Tryz.underlying155 Tryz.underlying158 cells_3 bytes_3 scal_3 zero_3 cells_4 bytes_4 scal_4 zero_4 cells_5 bytes_5 scal_5 zero_5 cells_9 bytes_9 scal_9 zero_9 cells_22 bytes_22 scal_22 zero_22 cells_24 bytes_24 scal_24 zero_24 cells_26 bytes_26 str_26 ff_26 fld_26_0 fld_26_1 sfld_26_0 sfld_26_1 zero_26 cells_28 bytes_28 scal_28 zero_28 cells_30 bytes_30 str_30 ff_30 fld_30_0 fld_30_1 fld_30_2 fld_30_3 fld_30_4 fld_30_5 fld_30_6 fld_30_7 sfld_30_0 sfld_30_1 sfld_30_2 sfld_30_3 sfld_30_4 sfld_30_5 sfld_30_6 sfld_30_7 zero_30 cells_34 bytes_34 scal_34 zero_34 cells_35 bytes_35 scal_35 zero_35 cells_37 bytes_37 str_37 ff_37 fld_37_0 fld_37_1 fld_37_2 fld_37_3 fld_37_4 fld_37_5 fld_37_6 sfld_37_0 sfld_37_1 sfld_37_2 sfld_37_3 sfld_37_4 sfld_37_5 sfld_37_6 zero_37 cells_41 bytes_41 scal_41 zero_41 cells_43 bytes_43 str_43 ff_43 fld_43_0 fld_43_1 sfld_43_0 sfld_43_1 zero_43 cells_44 bytes_44 scal_44 zero_44 cells_46 bytes_46 str_46 ff_46 fld_46_0 fld_46_1 fld_46_2 fld_46_3 fld_46_4 fld_46_5 fld_46_6 fld_46_7 sfld_46_0 sfld_46_1 sfld_46_2 sfld_46_3 sfld_46_4 sfld_46_5 sfld_46_6 sfld_46_7 zero_46 cells_85 bytes_85 scal_85 zero_85 cells_91 bytes_91 str_91 ff_91 fld_91_0 fld_91_1 sfld_91_0 sfld_91_1 zero_91 cells_99 bytes_99 str_99 ff_99 fld_99_0 fld_99_1 fld_99_2 fld_99_3 sfld_99_0 sfld_99_1 sfld_99_2 sfld_99_3 zero_99 cells_111 bytes_111 scal_111 zero_111 cells_112 bytes_112 scal_112 zero_112 cells_114 bytes_114 str_114 ff_114 fld_114_0 fld_114_1 fld_114_2 fld_114_3 fld_114_4 fld_114_5 fld_114_6 sfld_114_0 sfld_114_1 sfld_114_2 sfld_114_3 sfld_114_4 sfld_114_5 sfld_114_6 zero_114 cells_118 bytes_118 str_118 ff_118 fld_118_0 fld_118_1 sfld_118_0 sfld_118_1 zero_118 cells_133 bytes_133 str_133 ff_133 fld_133_0 fld_133_1 sfld_133_0 sfld_133_1 zero_133 cells_152 bytes_152 str_152 ff_152 fld_152_0 fld_152_1 fld_152_2 fld_152_3 sfld_152_0 sfld_152_1 sfld_152_2 sfld_152_3 zero_152 cells_155 bytes_155 str_155 ff_155 fld_155_0 fld_155_1 sfld_155_0 sfld_155_1 zero_155 cells_158 bytes_158 scal_158 zero_158
end Go.Proofs.YtjkhhplhjbmhjaaGreat.Ty
