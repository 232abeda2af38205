/- Facts on the types of the program, each looked up in it. -/
import Derived.Test.YtnbkmmjnpbfhnaaDoorVmSet
import Derived.Test.YtnbkmmjnpbfhnaaDoorProg
import Derived.KernelRfl
namespace Go.Proofs.YtnbkmmjnpbfhnaaDoor.Ty
open Go Go.VM
set_option maxRecDepth 100000
theorem cells_2 : Tryd.prog.cellsOf 2 = 1 := by kernel_rfl
theorem bytes_2 : Tryd.prog.bytesOf 2 = 8 := by kernel_rfl
theorem scal_2 : isScalarT Tryd.prog 2 = true := by kernel_rfl
theorem zero_2 : zeroV Tryd.prog 2 = some (.int .i64 0) := by kernel_rfl
theorem cells_3 : Tryd.prog.cellsOf 3 = 1 := by kernel_rfl
theorem bytes_3 : Tryd.prog.bytesOf 3 = 8 := by kernel_rfl
theorem scal_3 : isScalarT Tryd.prog 3 = true := by kernel_rfl
theorem zero_3 : zeroV Tryd.prog 3 = some (.int .i64 0) := by kernel_rfl
theorem cells_4 : Tryd.prog.cellsOf 4 = 1 := by kernel_rfl
theorem bytes_4 : Tryd.prog.bytesOf 4 = 1 := by kernel_rfl
theorem scal_4 : isScalarT Tryd.prog 4 = true := by kernel_rfl
theorem zero_4 : zeroV Tryd.prog 4 = some (.bool false) := by kernel_rfl
theorem cells_5 : Tryd.prog.cellsOf 5 = 1 := by kernel_rfl
theorem bytes_5 : Tryd.prog.bytesOf 5 = 1 := by kernel_rfl
theorem scal_5 : isScalarT Tryd.prog 5 = true := by kernel_rfl
theorem zero_5 : zeroV Tryd.prog 5 = some (.int .u8 0) := by kernel_rfl
theorem cells_9 : Tryd.prog.cellsOf 9 = 1 := by kernel_rfl
theorem bytes_9 : Tryd.prog.bytesOf 9 = 16 := by kernel_rfl
theorem scal_9 : isScalarT Tryd.prog 9 = true := by kernel_rfl
theorem zero_9 : zeroV Tryd.prog 9 = some (.str []) := by kernel_rfl
theorem cells_21 : Tryd.prog.cellsOf 21 = 1 := by kernel_rfl
theorem bytes_21 : Tryd.prog.bytesOf 21 = 4 := by kernel_rfl
theorem scal_21 : isScalarT Tryd.prog 21 = true := by kernel_rfl
theorem zero_21 : zeroV Tryd.prog 21 = some (.int .i32 0) := by kernel_rfl
theorem cells_22 : Tryd.prog.cellsOf 22 = 1 := by kernel_rfl
theorem bytes_22 : Tryd.prog.bytesOf 22 = 24 := by kernel_rfl
theorem scal_22 : isScalarT Tryd.prog 22 = true := by kernel_rfl
theorem zero_22 : zeroV Tryd.prog 22 = some (.nils 1) := by kernel_rfl
theorem cells_24 : Tryd.prog.cellsOf 24 = 1 := by kernel_rfl
theorem bytes_24 : Tryd.prog.bytesOf 24 = 24 := by kernel_rfl
theorem scal_24 : isScalarT Tryd.prog 24 = true := by kernel_rfl
theorem zero_24 : zeroV Tryd.prog 24 = some (.nils 3) := by kernel_rfl
theorem cells_33 : Tryd.prog.cellsOf 33 = 3 := by kernel_rfl
theorem bytes_33 : Tryd.prog.bytesOf 33 = 32 := by kernel_rfl
theorem str_33 : isStruct Tryd.prog 33 = true := by kernel_rfl
theorem ff_33 : fieldsFlat Tryd.prog 33 = true := by kernel_rfl
theorem fld_33_0 : fieldAt Tryd.prog 33 0 = true := by kernel_rfl
theorem sfld_33_0 : scalarField Tryd.prog 33 0 = true := by kernel_rfl
theorem fld_33_1 : fieldAt Tryd.prog 33 1 = true := by kernel_rfl
theorem sfld_33_1 : scalarField Tryd.prog 33 1 = true := by kernel_rfl
theorem fld_33_2 : fieldAt Tryd.prog 33 2 = true := by kernel_rfl
theorem sfld_33_2 : scalarField Tryd.prog 33 2 = true := by kernel_rfl
theorem zero_33 : zeroV Tryd.prog 33 = some (.agg [.int .i64 0, .int .i64 0, .str []]) := by kernel_rfl
theorem cells_36 : Tryd.prog.cellsOf 36 = 1 := by kernel_rfl
theorem bytes_36 : Tryd.prog.bytesOf 36 = 24 := by kernel_rfl
theorem scal_36 : isScalarT Tryd.prog 36 = true := by kernel_rfl
theorem zero_36 : zeroV Tryd.prog 36 = some (.nils 2) := by kernel_rfl
theorem cells_47 : Tryd.prog.cellsOf 47 = 1 := by kernel_rfl
theorem bytes_47 : Tryd.prog.bytesOf 47 = 24 := by kernel_rfl
theorem scal_47 : isScalarT Tryd.prog 47 = true := by kernel_rfl
theorem zero_47 : zeroV Tryd.prog 47 = some (.nils 1) := by kernel_rfl
theorem cells_53 : Tryd.prog.cellsOf 53 = 1 := by kernel_rfl
theorem bytes_53 : Tryd.prog.bytesOf 53 = 24 := by kernel_rfl
theorem scal_53 : isScalarT Tryd.prog 53 = true := by kernel_rfl
theorem zero_53 : zeroV Tryd.prog 53 = some (.nils 1) := by kernel_rfl
theorem cells_56 : Tryd.prog.cellsOf 56 = 2 := by kernel_rfl
theorem bytes_56 : Tryd.prog.bytesOf 56 = 16 := by kernel_rfl
theorem str_56 : isStruct Tryd.prog 56 = true := by kernel_rfl
theorem ff_56 : fieldsFlat Tryd.prog 56 = true := by kernel_rfl
theorem fld_56_0 : fieldAt Tryd.prog 56 0 = true := by kernel_rfl
theorem sfld_56_0 : scalarField Tryd.prog 56 0 = true := by kernel_rfl
theorem fld_56_1 : fieldAt Tryd.prog 56 1 = true := by kernel_rfl
theorem sfld_56_1 : scalarField Tryd.prog 56 1 = true := by kernel_rfl
theorem zero_56 : zeroV Tryd.prog 56 = some (.agg [.int .i64 0, .int .i64 0]) := by kernel_rfl
theorem cells_74 : Tryd.prog.cellsOf 74 = 1 := by kernel_rfl
theorem bytes_74 : Tryd.prog.bytesOf 74 = 8 := by kernel_rfl
theorem scal_74 : isScalarT Tryd.prog 74 = true := by kernel_rfl
theorem zero_74 : zeroV Tryd.prog 74 = some (.int .i64 0) := by kernel_rfl
theorem cells_84 : Tryd.prog.cellsOf 84 = 1 := by kernel_rfl
theorem bytes_84 : Tryd.prog.bytesOf 84 = 8 := by kernel_rfl
theorem scal_84 : isScalarT Tryd.prog 84 = true := by kernel_rfl
theorem zero_84 : zeroV Tryd.prog 84 = some (.int .u64 0) := by kernel_rfl
theorem cells_85 : Tryd.prog.cellsOf 85 = 1 := by kernel_rfl
theorem bytes_85 : Tryd.prog.bytesOf 85 = 8 := by kernel_rfl
theorem scal_85 : isScalarT Tryd.prog 85 = true := by kernel_rfl
theorem zero_85 : zeroV Tryd.prog 85 = some (.int .u64 0) := by kernel_rfl
theorem cells_90 : Tryd.prog.cellsOf 90 = 3 := by kernel_rfl
theorem bytes_90 : Tryd.prog.bytesOf 90 = 48 := by kernel_rfl
theorem str_90 : isStruct Tryd.prog 90 = true := by kernel_rfl
theorem ff_90 : fieldsFlat Tryd.prog 90 = true := by kernel_rfl
theorem fld_90_0 : fieldAt Tryd.prog 90 0 = true := by kernel_rfl
theorem sfld_90_0 : scalarField Tryd.prog 90 0 = true := by kernel_rfl
theorem fld_90_1 : fieldAt Tryd.prog 90 1 = true := by kernel_rfl
theorem sfld_90_1 : scalarField Tryd.prog 90 1 = true := by kernel_rfl
theorem fld_90_2 : fieldAt Tryd.prog 90 2 = true := by kernel_rfl
theorem sfld_90_2 : scalarField Tryd.prog 90 2 = true := by kernel_rfl
theorem cells_93 : Tryd.prog.cellsOf 93 = 1 := by kernel_rfl
theorem bytes_93 : Tryd.prog.bytesOf 93 = 4 := by kernel_rfl
theorem scal_93 : isScalarT Tryd.prog 93 = true := by kernel_rfl
theorem zero_93 : zeroV Tryd.prog 93 = some (.int .u32 0) := by kernel_rfl
theorem cells_101 : Tryd.prog.cellsOf 101 = 1 := by kernel_rfl
theorem bytes_101 : Tryd.prog.bytesOf 101 = 16 := by kernel_rfl
theorem str_101 : isStruct Tryd.prog 101 = true := by kernel_rfl
theorem ff_101 : fieldsFlat Tryd.prog 101 = true := by kernel_rfl
theorem fld_101_0 : fieldAt Tryd.prog 101 0 = true := by kernel_rfl
theorem sfld_101_0 : scalarField Tryd.prog 101 0 = true := by kernel_rfl
theorem zero_101 : zeroV Tryd.prog 101 = some (.agg [.str []]) := by kernel_rfl
theorem cells_109 : Tryd.prog.cellsOf 109 = 2 := by kernel_rfl
theorem bytes_109 : Tryd.prog.bytesOf 109 = 2 := by kernel_rfl
theorem str_109 : isStruct Tryd.prog 109 = true := by kernel_rfl
theorem ff_109 : fieldsFlat Tryd.prog 109 = true := by kernel_rfl
theorem fld_109_0 : fieldAt Tryd.prog 109 0 = true := by kernel_rfl
theorem sfld_109_0 : scalarField Tryd.prog 109 0 = true := by kernel_rfl
theorem fld_109_1 : fieldAt Tryd.prog 109 1 = true := by kernel_rfl
theorem sfld_109_1 : scalarField Tryd.prog 109 1 = true := by kernel_rfl
theorem zero_109 : zeroV Tryd.prog 109 = some (.agg [.int .u8 0, .int .u8 0]) := by kernel_rfl
theorem ifc_66 : ifaceT Tryd.prog 66 = true := by kernel_rfl
attribute [go_sem] Tryd.underlying2 Tryd.underlying3 Tryd.underlying4 Tryd.underlying5 Tryd.underlying9 Tryd.underlying21 Tryd.underlying22 Tryd.underlying24 Tryd.underlying33 Tryd.underlying36 Tryd.underlying47 Tryd.underlying53 Tryd.underlying56 Tryd.underlying74 Tryd.underlying84 Tryd.underlying85 Tryd.underlying90 Tryd.underlying93 Tryd.underlying101 Tryd.underlying109 cells_2 bytes_2 scal_2 zero_2 cells_3 bytes_3 scal_3 zero_3 cells_4 bytes_4 scal_4 zero_4 cells_5 bytes_5 scal_5 zero_5 cells_9 bytes_9 scal_9 zero_9 cells_21 bytes_21 scal_21 zero_21 cells_22 bytes_22 scal_22 zero_22 cells_24 bytes_24 scal_24 zero_24 cells_33 bytes_33 str_33 ff_33 fld_33_0 fld_33_1 fld_33_2 sfld_33_0 sfld_33_1 sfld_33_2 zero_33 cells_36 bytes_36 scal_36 zero_36 cells_47 bytes_47 scal_47 zero_47 cells_53 bytes_53 scal_53 zero_53 cells_56 bytes_56 str_56 ff_56 fld_56_0 fld_56_1 sfld_56_0 sfld_56_1 zero_56 cells_74 bytes_74 scal_74 zero_74 cells_84 bytes_84 scal_84 zero_84 cells_85 bytes_85 scal_85 zero_85 cells_90 bytes_90 str_90 ff_90 fld_90_0 fld_90_1 fld_90_2 sfld_90_0 sfld_90_1 sfld_90_2 cells_93 bytes_93 scal_93 zero_93 cells_101 bytes_101 str_101 ff_101 fld_101_0 sfld_101_0 zero_101 cells_109 bytes_109 str_109 ff_109 fld_109_0 fld_109_1 sfld_109_0 sfld_109_1 zero_109 ifc_66
end Go.Proofs.YtnbkmmjnpbfhnaaDoor.Ty
