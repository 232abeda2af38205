/- Facts on the types of the program, each looked up in it. -/
import Derived.Test.YtghmjnggmacohaaGreatDoorVmSet
import Derived.Test.YtghmjnggmacohaaGreatDoorProg
import Derived.KernelRfl
namespace Go.Proofs.YtghmjnggmacohaaGreatDoor.Ty
open Go Go.VM
set_option maxRecDepth 100000
theorem cells_3 : Tryz.prog.cellsOf 3 = 1 := by kernel_rfl
theorem bytes_3 : Tryz.prog.bytesOf 3 = 8 := by kernel_rfl
theorem scal_3 : isScalarT Tryz.prog 3 = true := by kernel_rfl
theorem zero_3 : zeroV Tryz.prog 3 = some (.int .i64 0) := by kernel_rfl
theorem cells_4 : Tryz.prog.cellsOf 4 = 1 := by kernel_rfl
theorem bytes_4 : Tryz.prog.bytesOf 4 = 1 := by kernel_rfl
theorem scal_4 : isScalarT Tryz.prog 4 = true := by kernel_rfl
theorem zero_4 : zeroV Tryz.prog 4 = some (.bool false) := by kernel_rfl
theorem cells_5 : Tryz.prog.cellsOf 5 = 1 := by kernel_rfl
theorem bytes_5 : Tryz.prog.bytesOf 5 = 1 := by kernel_rfl
theorem scal_5 : isScalarT Tryz.prog 5 = true := by kernel_rfl
theorem zero_5 : zeroV Tryz.prog 5 = some (.int .u8 0) := by kernel_rfl
theorem cells_9 : Tryz.prog.cellsOf 9 = 1 := by kernel_rfl
theorem bytes_9 : Tryz.prog.bytesOf 9 = 16 := by kernel_rfl
theorem scal_9 : isScalarT Tryz.prog 9 = true := by kernel_rfl
theorem zero_9 : zeroV Tryz.prog 9 = some (.str []) := by kernel_rfl
theorem cells_21 : Tryz.prog.cellsOf 21 = 1 := by kernel_rfl
theorem bytes_21 : Tryz.prog.bytesOf 21 = 4 := by kernel_rfl
theorem scal_21 : isScalarT Tryz.prog 21 = true := by kernel_rfl
theorem zero_21 : zeroV Tryz.prog 21 = some (.int .i32 0) := by kernel_rfl
theorem cells_29 : Tryz.prog.cellsOf 29 = 1 := by kernel_rfl
theorem bytes_29 : Tryz.prog.bytesOf 29 = 24 := by kernel_rfl
theorem scal_29 : isScalarT Tryz.prog 29 = true := by kernel_rfl
theorem zero_29 : zeroV Tryz.prog 29 = some (.nils 1) := by kernel_rfl
theorem cells_31 : Tryz.prog.cellsOf 31 = 1 := by kernel_rfl
theorem bytes_31 : Tryz.prog.bytesOf 31 = 24 := by kernel_rfl
theorem scal_31 : isScalarT Tryz.prog 31 = true := by kernel_rfl
theorem zero_31 : zeroV Tryz.prog 31 = some (.nils 4) := by kernel_rfl
theorem cells_32 : Tryz.prog.cellsOf 32 = 1 := by kernel_rfl
theorem bytes_32 : Tryz.prog.bytesOf 32 = 24 := by kernel_rfl
theorem scal_32 : isScalarT Tryz.prog 32 = true := by kernel_rfl
theorem zero_32 : zeroV Tryz.prog 32 = some (.nils 2) := by kernel_rfl
theorem cells_34 : Tryz.prog.cellsOf 34 = 7 := by kernel_rfl
theorem bytes_34 : Tryz.prog.bytesOf 34 = 96 := by kernel_rfl
theorem str_34 : isStruct Tryz.prog 34 = true := by kernel_rfl
theorem ff_34 : fieldsFlat Tryz.prog 34 = true := by kernel_rfl
theorem fld_34_0 : fieldAt Tryz.prog 34 0 = true := by kernel_rfl
theorem sfld_34_0 : scalarField Tryz.prog 34 0 = true := by kernel_rfl
theorem fld_34_1 : fieldAt Tryz.prog 34 1 = true := by kernel_rfl
theorem sfld_34_1 : scalarField Tryz.prog 34 1 = true := by kernel_rfl
theorem fld_34_2 : fieldAt Tryz.prog 34 2 = true := by kernel_rfl
theorem sfld_34_2 : scalarField Tryz.prog 34 2 = true := by kernel_rfl
theorem fld_34_3 : fieldAt Tryz.prog 34 3 = true := by kernel_rfl
theorem sfld_34_3 : scalarField Tryz.prog 34 3 = true := by kernel_rfl
theorem fld_34_4 : fieldAt Tryz.prog 34 4 = true := by kernel_rfl
theorem sfld_34_4 : scalarField Tryz.prog 34 4 = true := by kernel_rfl
theorem fld_34_5 : fieldAt Tryz.prog 34 5 = true := by kernel_rfl
theorem sfld_34_5 : scalarField Tryz.prog 34 5 = true := by kernel_rfl
theorem fld_34_6 : fieldAt Tryz.prog 34 6 = true := by kernel_rfl
theorem sfld_34_6 : scalarField Tryz.prog 34 6 = true := by kernel_rfl
theorem zero_34 : zeroV Tryz.prog 34 = some (.agg [.str [], .int .i64 0, .int .i64 0, .int .i64 0, .nils 4, .nils 2, .int .i64 0]) := by kernel_rfl
theorem cells_36 : Tryz.prog.cellsOf 36 = 1 := by kernel_rfl
theorem bytes_36 : Tryz.prog.bytesOf 36 = 24 := by kernel_rfl
theorem scal_36 : isScalarT Tryz.prog 36 = true := by kernel_rfl
theorem zero_36 : zeroV Tryz.prog 36 = some (.nils 2) := by kernel_rfl
theorem cells_45 : Tryz.prog.cellsOf 45 = 1 := by kernel_rfl
theorem bytes_45 : Tryz.prog.bytesOf 45 = 24 := by kernel_rfl
theorem scal_45 : isScalarT Tryz.prog 45 = true := by kernel_rfl
theorem zero_45 : zeroV Tryz.prog 45 = some (.nils 1) := by kernel_rfl
theorem cells_49 : Tryz.prog.cellsOf 49 = 1 := by kernel_rfl
theorem bytes_49 : Tryz.prog.bytesOf 49 = 24 := by kernel_rfl
theorem scal_49 : isScalarT Tryz.prog 49 = true := by kernel_rfl
theorem zero_49 : zeroV Tryz.prog 49 = some (.nils 1) := by kernel_rfl
theorem cells_53 : Tryz.prog.cellsOf 53 = 4 := by kernel_rfl
theorem bytes_53 : Tryz.prog.bytesOf 53 = 40 := by kernel_rfl
theorem str_53 : isStruct Tryz.prog 53 = true := by kernel_rfl
theorem ff_53 : fieldsFlat Tryz.prog 53 = true := by kernel_rfl
theorem fld_53_0 : fieldAt Tryz.prog 53 0 = true := by kernel_rfl
theorem sfld_53_0 : scalarField Tryz.prog 53 0 = true := by kernel_rfl
theorem fld_53_1 : fieldAt Tryz.prog 53 1 = true := by kernel_rfl
theorem sfld_53_1 : scalarField Tryz.prog 53 1 = true := by kernel_rfl
theorem fld_53_2 : fieldAt Tryz.prog 53 2 = true := by kernel_rfl
theorem sfld_53_2 : scalarField Tryz.prog 53 2 = true := by kernel_rfl
theorem fld_53_3 : fieldAt Tryz.prog 53 3 = true := by kernel_rfl
theorem sfld_53_3 : scalarField Tryz.prog 53 3 = true := by kernel_rfl
theorem zero_53 : zeroV Tryz.prog 53 = some (.agg [.int .i64 0, .int .i64 0, .int .i64 0, .str []]) := by kernel_rfl
theorem cells_58 : Tryz.prog.cellsOf 58 = 1 := by kernel_rfl
theorem bytes_58 : Tryz.prog.bytesOf 58 = 24 := by kernel_rfl
theorem scal_58 : isScalarT Tryz.prog 58 = true := by kernel_rfl
theorem zero_58 : zeroV Tryz.prog 58 = some (.nils 1) := by kernel_rfl
theorem cells_65 : Tryz.prog.cellsOf 65 = 2 := by kernel_rfl
theorem bytes_65 : Tryz.prog.bytesOf 65 = 16 := by kernel_rfl
theorem str_65 : isStruct Tryz.prog 65 = true := by kernel_rfl
theorem ff_65 : fieldsFlat Tryz.prog 65 = true := by kernel_rfl
theorem fld_65_0 : fieldAt Tryz.prog 65 0 = true := by kernel_rfl
theorem sfld_65_0 : scalarField Tryz.prog 65 0 = true := by kernel_rfl
theorem fld_65_1 : fieldAt Tryz.prog 65 1 = true := by kernel_rfl
theorem sfld_65_1 : scalarField Tryz.prog 65 1 = true := by kernel_rfl
theorem zero_65 : zeroV Tryz.prog 65 = some (.agg [.int .i64 0, .int .i64 0]) := by kernel_rfl
theorem cells_90 : Tryz.prog.cellsOf 90 = 2 := by kernel_rfl
theorem bytes_90 : Tryz.prog.bytesOf 90 = 16 := by kernel_rfl
theorem str_90 : isStruct Tryz.prog 90 = true := by kernel_rfl
theorem ff_90 : fieldsFlat Tryz.prog 90 = true := by kernel_rfl
theorem fld_90_0 : fieldAt Tryz.prog 90 0 = true := by kernel_rfl
theorem sfld_90_0 : scalarField Tryz.prog 90 0 = true := by kernel_rfl
theorem fld_90_1 : fieldAt Tryz.prog 90 1 = true := by kernel_rfl
theorem sfld_90_1 : scalarField Tryz.prog 90 1 = true := by kernel_rfl
theorem zero_90 : zeroV Tryz.prog 90 = some (.agg [.int .i64 0, .int .i64 0]) := by kernel_rfl
theorem cells_114 : Tryz.prog.cellsOf 114 = 3 := by kernel_rfl
theorem bytes_114 : Tryz.prog.bytesOf 114 = 40 := by kernel_rfl
theorem str_114 : isStruct Tryz.prog 114 = true := by kernel_rfl
theorem ff_114 : fieldsFlat Tryz.prog 114 = true := by kernel_rfl
theorem fld_114_0 : fieldAt Tryz.prog 114 0 = true := by kernel_rfl
theorem sfld_114_0 : scalarField Tryz.prog 114 0 = true := by kernel_rfl
theorem fld_114_1 : fieldAt Tryz.prog 114 1 = true := by kernel_rfl
theorem sfld_114_1 : scalarField Tryz.prog 114 1 = true := by kernel_rfl
theorem fld_114_2 : fieldAt Tryz.prog 114 2 = true := by kernel_rfl
theorem sfld_114_2 : scalarField Tryz.prog 114 2 = true := by kernel_rfl
theorem zero_114 : zeroV Tryz.prog 114 = some (.agg [.nils 1, .int .i64 0, .int .i64 0]) := by kernel_rfl
theorem cells_131 : Tryz.prog.cellsOf 131 = 1 := by kernel_rfl
theorem bytes_131 : Tryz.prog.bytesOf 131 = 8 := by kernel_rfl
theorem scal_131 : isScalarT Tryz.prog 131 = true := by kernel_rfl
theorem zero_131 : zeroV Tryz.prog 131 = some (.int .u64 0) := by kernel_rfl
theorem cells_151 : Tryz.prog.cellsOf 151 = 1 := by kernel_rfl
theorem bytes_151 : Tryz.prog.bytesOf 151 = 24 := by kernel_rfl
theorem scal_151 : isScalarT Tryz.prog 151 = true := by kernel_rfl
theorem zero_151 : zeroV Tryz.prog 151 = some (.nils 1) := by kernel_rfl
theorem cells_159 : Tryz.prog.cellsOf 159 = 2 := by kernel_rfl
theorem bytes_159 : Tryz.prog.bytesOf 159 = 2 := by kernel_rfl
theorem str_159 : isStruct Tryz.prog 159 = true := by kernel_rfl
theorem ff_159 : fieldsFlat Tryz.prog 159 = true := by kernel_rfl
theorem fld_159_0 : fieldAt Tryz.prog 159 0 = true := by kernel_rfl
theorem sfld_159_0 : scalarField Tryz.prog 159 0 = true := by kernel_rfl
theorem fld_159_1 : fieldAt Tryz.prog 159 1 = true := by kernel_rfl
theorem sfld_159_1 : scalarField Tryz.prog 159 1 = true := by kernel_rfl
theorem zero_159 : zeroV Tryz.prog 159 = some (.agg [.int .u8 0, .int .u8 0]) := by kernel_rfl
theorem cells_162 : Tryz.prog.cellsOf 162 = 1 := by kernel_rfl
theorem bytes_162 : Tryz.prog.bytesOf 162 = 4 := by kernel_rfl
theorem scal_162 : isScalarT Tryz.prog 162 = true := by kernel_rfl
theorem zero_162 : zeroV Tryz.prog 162 = some (.int .u32 0) := by kernel_rfl
theorem mapT_80 : mapT Tryz.prog 80 = some (.int .i64 0) := by kernel_rfl
attribute [go_sem] mapT_80 Tryz.underlying3 Tryz.underlying4 Tryz.underlying5 Tryz.underlying9 Tryz.underlying21 Tryz.underlying29 Tryz.underlying31 Tryz.underlying32 Tryz.underlying34 Tryz.underlying36 Tryz.underlying45 Tryz.underlying49 Tryz.underlying53 Tryz.underlying58 Tryz.underlying65 Tryz.underlying90 Tryz.underlying114 Tryz.underlying131 Tryz.underlying151 Tryz.underlying159 Tryz.underlying162 cells_3 bytes_3 scal_3 zero_3 cells_4 bytes_4 scal_4 zero_4 cells_5 bytes_5 scal_5 zero_5 cells_9 bytes_9 scal_9 zero_9 cells_21 bytes_21 scal_21 zero_21 cells_29 bytes_29 scal_29 zero_29 cells_31 bytes_31 scal_31 zero_31 cells_32 bytes_32 scal_32 zero_32 cells_34 bytes_34 str_34 ff_34 fld_34_0 fld_34_1 fld_34_2 fld_34_3 fld_34_4 fld_34_5 fld_34_6 sfld_34_0 sfld_34_1 sfld_34_2 sfld_34_3 sfld_34_4 sfld_34_5 sfld_34_6 zero_34 cells_36 bytes_36 scal_36 zero_36 cells_45 bytes_45 scal_45 zero_45 cells_49 bytes_49 scal_49 zero_49 cells_53 bytes_53 str_53 ff_53 fld_53_0 fld_53_1 fld_53_2 fld_53_3 sfld_53_0 sfld_53_1 sfld_53_2 sfld_53_3 zero_53 cells_58 bytes_58 scal_58 zero_58 cells_65 bytes_65 str_65 ff_65 fld_65_0 fld_65_1 sfld_65_0 sfld_65_1 zero_65 cells_90 bytes_90 str_90 ff_90 fld_90_0 fld_90_1 sfld_90_0 sfld_90_1 zero_90 cells_114 bytes_114 str_114 ff_114 fld_114_0 fld_114_1 fld_114_2 sfld_114_0 sfld_114_1 sfld_114_2 zero_114 cells_131 bytes_131 scal_131 zero_131 cells_151 bytes_151 scal_151 zero_151 cells_159 bytes_159 str_159 ff_159 fld_159_0 fld_159_1 sfld_159_0 sfld_159_1 zero_159 cells_162 bytes_162 scal_162 zero_162
end Go.Proofs.YtghmjnggmacohaaGreatDoor.Ty
