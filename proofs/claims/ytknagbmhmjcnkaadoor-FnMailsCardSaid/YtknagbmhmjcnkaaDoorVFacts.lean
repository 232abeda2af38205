/- Facts on the types of the program, each looked up in it. -/
import Derived.Test.YtknagbmhmjcnkaaDoorVmSet
import Derived.Test.YtknagbmhmjcnkaaDoorProg
import Derived.KernelRfl
namespace Go.Proofs.YtknagbmhmjcnkaaDoor.Ty
open Go Go.VM
set_option maxRecDepth 100000
theorem cells_2 : Tryd.prog.cellsOf 2 = 1 := by kernel_rfl
theorem bytes_2 : Tryd.prog.bytesOf 2 = 8 := by kernel_rfl
theorem scal_2 : isScalarT Tryd.prog 2 = true := by kernel_rfl
theorem zero_2 : zeroV Tryd.prog 2 = some (.int .i64 0) := by kernel_rfl
theorem cells_3 : Tryd.prog.cellsOf 3 = 1 := by kernel_rfl
theorem bytes_3 : Tryd.prog.bytesOf 3 = 8 := by kernel_rfl
theorem scal_3 : isScalarT Tryd.prog 3 = true := by kernel_rfl
theorem zero_3 : zeroV Tryd.prog 3 = some (.int .i64 0) := by kernel_rfl
theorem cells_4 : Tryd.prog.cellsOf 4 = 1 := by kernel_rfl
theorem bytes_4 : Tryd.prog.bytesOf 4 = 1 := by kernel_rfl
theorem scal_4 : isScalarT Tryd.prog 4 = true := by kernel_rfl
theorem zero_4 : zeroV Tryd.prog 4 = some (.bool false) := by kernel_rfl
theorem cells_5 : Tryd.prog.cellsOf 5 = 1 := by kernel_rfl
theorem bytes_5 : Tryd.prog.bytesOf 5 = 1 := by kernel_rfl
theorem scal_5 : isScalarT Tryd.prog 5 = true := by kernel_rfl
theorem zero_5 : zeroV Tryd.prog 5 = some (.int .u8 0) := by kernel_rfl
theorem cells_6 : Tryd.prog.cellsOf 6 = 1 := by kernel_rfl
theorem bytes_6 : Tryd.prog.bytesOf 6 = 1 := by kernel_rfl
theorem scal_6 : isScalarT Tryd.prog 6 = true := by kernel_rfl
theorem zero_6 : zeroV Tryd.prog 6 = some (.int .u8 0) := by kernel_rfl
theorem cells_8 : Tryd.prog.cellsOf 8 = 4 := by kernel_rfl
theorem bytes_8 : Tryd.prog.bytesOf 8 = 24 := by kernel_rfl
theorem str_8 : isStruct Tryd.prog 8 = true := by kernel_rfl
theorem ff_8 : fieldsFlat Tryd.prog 8 = true := by kernel_rfl
theorem fld_8_0 : fieldAt Tryd.prog 8 0 = true := by kernel_rfl
theorem sfld_8_0 : scalarField Tryd.prog 8 0 = true := by kernel_rfl
theorem fld_8_1 : fieldAt Tryd.prog 8 1 = true := by kernel_rfl
theorem sfld_8_1 : scalarField Tryd.prog 8 1 = true := by kernel_rfl
theorem fld_8_2 : fieldAt Tryd.prog 8 2 = true := by kernel_rfl
theorem sfld_8_2 : scalarField Tryd.prog 8 2 = true := by kernel_rfl
theorem fld_8_3 : fieldAt Tryd.prog 8 3 = true := by kernel_rfl
theorem sfld_8_3 : scalarField Tryd.prog 8 3 = true := by kernel_rfl
theorem zero_8 : zeroV Tryd.prog 8 = some (.agg [.int .i64 0, .int .i64 0, .bool false, .int .u8 0]) := by kernel_rfl
theorem cells_9 : Tryd.prog.cellsOf 9 = 1 := by kernel_rfl
theorem bytes_9 : Tryd.prog.bytesOf 9 = 16 := by kernel_rfl
theorem scal_9 : isScalarT Tryd.prog 9 = true := by kernel_rfl
theorem zero_9 : zeroV Tryd.prog 9 = some (.str []) := by kernel_rfl
theorem cells_10 : Tryd.prog.cellsOf 10 = 1 := by kernel_rfl
theorem bytes_10 : Tryd.prog.bytesOf 10 = 16 := by kernel_rfl
theorem scal_10 : isScalarT Tryd.prog 10 = true := by kernel_rfl
theorem zero_10 : zeroV Tryd.prog 10 = some (.str []) := by kernel_rfl
theorem cells_11 : Tryd.prog.cellsOf 11 = 1 := by kernel_rfl
theorem bytes_11 : Tryd.prog.bytesOf 11 = 16 := by kernel_rfl
theorem scal_11 : isScalarT Tryd.prog 11 = true := by kernel_rfl
theorem zero_11 : zeroV Tryd.prog 11 = some (.str []) := by kernel_rfl
theorem cells_12 : Tryd.prog.cellsOf 12 = 1 := by kernel_rfl
theorem bytes_12 : Tryd.prog.bytesOf 12 = 8 := by kernel_rfl
theorem scal_12 : isScalarT Tryd.prog 12 = true := by kernel_rfl
theorem zero_12 : zeroV Tryd.prog 12 = some (.int .u64 0) := by kernel_rfl
theorem cells_14 : Tryd.prog.cellsOf 14 = 2 := by kernel_rfl
theorem bytes_14 : Tryd.prog.bytesOf 14 = 24 := by kernel_rfl
theorem str_14 : isStruct Tryd.prog 14 = true := by kernel_rfl
theorem ff_14 : fieldsFlat Tryd.prog 14 = true := by kernel_rfl
theorem fld_14_0 : fieldAt Tryd.prog 14 0 = true := by kernel_rfl
theorem sfld_14_0 : scalarField Tryd.prog 14 0 = true := by kernel_rfl
theorem fld_14_1 : fieldAt Tryd.prog 14 1 = true := by kernel_rfl
theorem sfld_14_1 : scalarField Tryd.prog 14 1 = true := by kernel_rfl
theorem zero_14 : zeroV Tryd.prog 14 = some (.agg [.str [], .int .u64 0]) := by kernel_rfl
theorem cells_19 : Tryd.prog.cellsOf 19 = 1 := by kernel_rfl
theorem bytes_19 : Tryd.prog.bytesOf 19 = 8 := by kernel_rfl
theorem str_19 : isStruct Tryd.prog 19 = true := by kernel_rfl
theorem ff_19 : fieldsFlat Tryd.prog 19 = true := by kernel_rfl
theorem fld_19_0 : fieldAt Tryd.prog 19 0 = true := by kernel_rfl
theorem sfld_19_0 : scalarField Tryd.prog 19 0 = true := by kernel_rfl
theorem cells_21 : Tryd.prog.cellsOf 21 = 1 := by kernel_rfl
theorem bytes_21 : Tryd.prog.bytesOf 21 = 4 := by kernel_rfl
theorem scal_21 : isScalarT Tryd.prog 21 = true := by kernel_rfl
theorem zero_21 : zeroV Tryd.prog 21 = some (.int .i32 0) := by kernel_rfl
theorem cells_22 : Tryd.prog.cellsOf 22 = 1 := by kernel_rfl
theorem bytes_22 : Tryd.prog.bytesOf 22 = 24 := by kernel_rfl
theorem scal_22 : isScalarT Tryd.prog 22 = true := by kernel_rfl
theorem zero_22 : zeroV Tryd.prog 22 = some (.nils 1) := by kernel_rfl
theorem cells_24 : Tryd.prog.cellsOf 24 = 1 := by kernel_rfl
theorem bytes_24 : Tryd.prog.bytesOf 24 = 24 := by kernel_rfl
theorem scal_24 : isScalarT Tryd.prog 24 = true := by kernel_rfl
theorem zero_24 : zeroV Tryd.prog 24 = some (.nils 1) := by kernel_rfl
theorem cells_26 : Tryd.prog.cellsOf 26 = 1 := by kernel_rfl
theorem bytes_26 : Tryd.prog.bytesOf 26 = 24 := by kernel_rfl
theorem scal_26 : isScalarT Tryd.prog 26 = true := by kernel_rfl
theorem zero_26 : zeroV Tryd.prog 26 = some (.nils 1) := by kernel_rfl
theorem cells_53 : Tryd.prog.cellsOf 53 = 3 := by kernel_rfl
theorem bytes_53 : Tryd.prog.bytesOf 53 = 40 := by kernel_rfl
theorem str_53 : isStruct Tryd.prog 53 = true := by kernel_rfl
theorem ff_53 : fieldsFlat Tryd.prog 53 = true := by kernel_rfl
theorem fld_53_0 : fieldAt Tryd.prog 53 0 = true := by kernel_rfl
theorem sfld_53_0 : scalarField Tryd.prog 53 0 = true := by kernel_rfl
theorem fld_53_1 : fieldAt Tryd.prog 53 1 = true := by kernel_rfl
theorem sfld_53_1 : scalarField Tryd.prog 53 1 = true := by kernel_rfl
theorem fld_53_2 : fieldAt Tryd.prog 53 2 = true := by kernel_rfl
theorem sfld_53_2 : scalarField Tryd.prog 53 2 = true := by kernel_rfl
theorem zero_53 : zeroV Tryd.prog 53 = some (.agg [.nils 1, .int .i64 0, .int .i64 0]) := by kernel_rfl
theorem cells_54 : Tryd.prog.cellsOf 54 = 1 := by kernel_rfl
theorem bytes_54 : Tryd.prog.bytesOf 54 = 8 := by kernel_rfl
theorem scal_54 : isScalarT Tryd.prog 54 = true := by kernel_rfl
theorem zero_54 : zeroV Tryd.prog 54 = some (.int .u64 0) := by kernel_rfl
theorem cells_77 : Tryd.prog.cellsOf 77 = 2 := by kernel_rfl
theorem bytes_77 : Tryd.prog.bytesOf 77 = 2 := by kernel_rfl
theorem str_77 : isStruct Tryd.prog 77 = true := by kernel_rfl
theorem ff_77 : fieldsFlat Tryd.prog 77 = true := by kernel_rfl
theorem fld_77_0 : fieldAt Tryd.prog 77 0 = true := by kernel_rfl
theorem sfld_77_0 : scalarField Tryd.prog 77 0 = true := by kernel_rfl
theorem fld_77_1 : fieldAt Tryd.prog 77 1 = true := by kernel_rfl
theorem sfld_77_1 : scalarField Tryd.prog 77 1 = true := by kernel_rfl
theorem zero_77 : zeroV Tryd.prog 77 = some (.agg [.int .u8 0, .int .u8 0]) := by kernel_rfl
theorem cells_80 : Tryd.prog.cellsOf 80 = 1 := by kernel_rfl
theorem bytes_80 : Tryd.prog.bytesOf 80 = 4 := by kernel_rfl
theorem scal_80 : isScalarT Tryd.prog 80 = true := by kernel_rfl
theorem zero_80 : zeroV Tryd.prog 80 = some (.int .u32 0) := by kernel_rfl
theorem cells_91 : Tryd.prog.cellsOf 91 = 1 := by kernel_rfl
theorem bytes_91 : Tryd.prog.bytesOf 91 = 1 := by kernel_rfl
theorem scal_91 : isScalarT Tryd.prog 91 = true := by kernel_rfl
theorem zero_91 : zeroV Tryd.prog 91 = some (.int .u8 0) := by kernel_rfl
attribute [go_sem] Tryd.underlying2 Tryd.underlying3 Tryd.underlying4 Tryd.underlying5 Tryd.underlying6 Tryd.underlying8 Tryd.underlying9 Tryd.underlying10 Tryd.underlying11 Tryd.underlying12 Tryd.underlying14 Tryd.underlying19 Tryd.underlying21 Tryd.underlying22 Tryd.underlying24 Tryd.underlying26 Tryd.underlying53 Tryd.underlying54 Tryd.underlying77 Tryd.underlying80 Tryd.underlying91 cells_2 bytes_2 scal_2 zero_2 cells_3 bytes_3 scal_3 zero_3 cells_4 bytes_4 scal_4 zero_4 cells_5 bytes_5 scal_5 zero_5 cells_6 bytes_6 scal_6 zero_6 cells_8 bytes_8 str_8 ff_8 fld_8_0 fld_8_1 fld_8_2 fld_8_3 sfld_8_0 sfld_8_1 sfld_8_2 sfld_8_3 zero_8 cells_9 bytes_9 scal_9 zero_9 cells_10 bytes_10 scal_10 zero_10 cells_11 bytes_11 scal_11 zero_11 cells_12 bytes_12 scal_12 zero_12 cells_14 bytes_14 str_14 ff_14 fld_14_0 fld_14_1 sfld_14_0 sfld_14_1 zero_14 cells_19 bytes_19 str_19 ff_19 fld_19_0 sfld_19_0 cells_21 bytes_21 scal_21 zero_21 cells_22 bytes_22 scal_22 zero_22 cells_24 bytes_24 scal_24 zero_24 cells_26 bytes_26 scal_26 zero_26 cells_53 bytes_53 str_53 ff_53 fld_53_0 fld_53_1 fld_53_2 sfld_53_0 sfld_53_1 sfld_53_2 zero_53 cells_54 bytes_54 scal_54 zero_54 cells_77 bytes_77 str_77 ff_77 fld_77_0 fld_77_1 sfld_77_0 sfld_77_1 zero_77 cells_80 bytes_80 scal_80 zero_80 cells_91 bytes_91 scal_91 zero_91
end Go.Proofs.YtknagbmhmjcnkaaDoor.Ty
