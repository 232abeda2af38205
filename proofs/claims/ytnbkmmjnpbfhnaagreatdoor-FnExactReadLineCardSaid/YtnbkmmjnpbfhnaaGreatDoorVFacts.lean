/- Facts on the types of the program, each looked up in it. -/
import Derived.Test.YtnbkmmjnpbfhnaaGreatDoorVmSet
import Derived.Test.YtnbkmmjnpbfhnaaGreatDoorProg
import Derived.KernelRfl
namespace Go.Proofs.YtnbkmmjnpbfhnaaGreatDoor.Ty
open Go Go.VM
set_option maxRecDepth 100000
theorem cells_2 : Tryz.prog.cellsOf 2 = 1 := by kernel_rfl
theorem bytes_2 : Tryz.prog.bytesOf 2 = 8 := by kernel_rfl
theorem scal_2 : isScalarT Tryz.prog 2 = true := by kernel_rfl
theorem zero_2 : zeroV Tryz.prog 2 = some (.int .i64 0) := by kernel_rfl
theorem cells_3 : Tryz.prog.cellsOf 3 = 1 := by kernel_rfl
theorem bytes_3 : Tryz.prog.bytesOf 3 = 8 := by kernel_rfl
theorem scal_3 : isScalarT Tryz.prog 3 = true := by kernel_rfl
theorem zero_3 : zeroV Tryz.prog 3 = some (.int .i64 0) := by kernel_rfl
theorem cells_4 : Tryz.prog.cellsOf 4 = 1 := by kernel_rfl
theorem bytes_4 : Tryz.prog.bytesOf 4 = 1 := by kernel_rfl
theorem scal_4 : isScalarT Tryz.prog 4 = true := by kernel_rfl
theorem zero_4 : zeroV Tryz.prog 4 = some (.bool false) := by kernel_rfl
theorem cells_5 : Tryz.prog.cellsOf 5 = 1 := by kernel_rfl
theorem bytes_5 : Tryz.prog.bytesOf 5 = 1 := by kernel_rfl
theorem scal_5 : isScalarT Tryz.prog 5 = true := by kernel_rfl
theorem zero_5 : zeroV Tryz.prog 5 = some (.int .u8 0) := by kernel_rfl
theorem cells_9 : Tryz.prog.cellsOf 9 = 1 := by kernel_rfl
theorem bytes_9 : Tryz.prog.bytesOf 9 = 16 := by kernel_rfl
theorem scal_9 : isScalarT Tryz.prog 9 = true := by kernel_rfl
theorem zero_9 : zeroV Tryz.prog 9 = some (.str []) := by kernel_rfl
theorem cells_21 : Tryz.prog.cellsOf 21 = 1 := by kernel_rfl
theorem bytes_21 : Tryz.prog.bytesOf 21 = 4 := by kernel_rfl
theorem scal_21 : isScalarT Tryz.prog 21 = true := by kernel_rfl
theorem zero_21 : zeroV Tryz.prog 21 = some (.int .i32 0) := by kernel_rfl
theorem cells_22 : Tryz.prog.cellsOf 22 = 1 := by kernel_rfl
theorem bytes_22 : Tryz.prog.bytesOf 22 = 24 := by kernel_rfl
theorem scal_22 : isScalarT Tryz.prog 22 = true := by kernel_rfl
theorem zero_22 : zeroV Tryz.prog 22 = some (.nils 2) := by kernel_rfl
theorem cells_24 : Tryz.prog.cellsOf 24 = 7 := by kernel_rfl
theorem bytes_24 : Tryz.prog.bytesOf 24 = 72 := by kernel_rfl
theorem str_24 : isStruct Tryz.prog 24 = true := by kernel_rfl
theorem ff_24 : fieldsFlat Tryz.prog 24 = true := by kernel_rfl
theorem fld_24_0 : fieldAt Tryz.prog 24 0 = true := by kernel_rfl
theorem sfld_24_0 : scalarField Tryz.prog 24 0 = true := by kernel_rfl
theorem fld_24_1 : fieldAt Tryz.prog 24 1 = true := by kernel_rfl
theorem sfld_24_1 : scalarField Tryz.prog 24 1 = true := by kernel_rfl
theorem fld_24_2 : fieldAt Tryz.prog 24 2 = true := by kernel_rfl
theorem sfld_24_2 : scalarField Tryz.prog 24 2 = true := by kernel_rfl
theorem fld_24_3 : fieldAt Tryz.prog 24 3 = true := by kernel_rfl
theorem sfld_24_3 : scalarField Tryz.prog 24 3 = true := by kernel_rfl
theorem fld_24_4 : fieldAt Tryz.prog 24 4 = true := by kernel_rfl
theorem sfld_24_4 : scalarField Tryz.prog 24 4 = true := by kernel_rfl
theorem fld_24_5 : fieldAt Tryz.prog 24 5 = true := by kernel_rfl
theorem sfld_24_5 : scalarField Tryz.prog 24 5 = true := by kernel_rfl
theorem fld_24_6 : fieldAt Tryz.prog 24 6 = true := by kernel_rfl
theorem sfld_24_6 : scalarField Tryz.prog 24 6 = true := by kernel_rfl
theorem zero_24 : zeroV Tryz.prog 24 = some (.agg [.int .i64 0, .int .i64 0, .int .i64 0, .int .i64 0, .int .i64 0, .nils 2, .bool false]) := by kernel_rfl
theorem cells_35 : Tryz.prog.cellsOf 35 = 1 := by kernel_rfl
theorem bytes_35 : Tryz.prog.bytesOf 35 = 24 := by kernel_rfl
theorem scal_35 : isScalarT Tryz.prog 35 = true := by kernel_rfl
theorem zero_35 : zeroV Tryz.prog 35 = some (.nils 1) := by kernel_rfl
theorem cells_49 : Tryz.prog.cellsOf 49 = 2 := by kernel_rfl
theorem bytes_49 : Tryz.prog.bytesOf 49 = 16 := by kernel_rfl
theorem str_49 : isStruct Tryz.prog 49 = true := by kernel_rfl
theorem ff_49 : fieldsFlat Tryz.prog 49 = true := by kernel_rfl
theorem fld_49_0 : fieldAt Tryz.prog 49 0 = true := by kernel_rfl
theorem sfld_49_0 : scalarField Tryz.prog 49 0 = true := by kernel_rfl
theorem fld_49_1 : fieldAt Tryz.prog 49 1 = true := by kernel_rfl
theorem sfld_49_1 : scalarField Tryz.prog 49 1 = true := by kernel_rfl
theorem zero_49 : zeroV Tryz.prog 49 = some (.agg [.int .i64 0, .int .i64 0]) := by kernel_rfl
theorem cells_51 : Tryz.prog.cellsOf 51 = 1 := by kernel_rfl
theorem bytes_51 : Tryz.prog.bytesOf 51 = 24 := by kernel_rfl
theorem scal_51 : isScalarT Tryz.prog 51 = true := by kernel_rfl
theorem zero_51 : zeroV Tryz.prog 51 = some (.nils 1) := by kernel_rfl
theorem cells_60 : Tryz.prog.cellsOf 60 = 1 := by kernel_rfl
theorem bytes_60 : Tryz.prog.bytesOf 60 = 24 := by kernel_rfl
theorem scal_60 : isScalarT Tryz.prog 60 = true := by kernel_rfl
theorem zero_60 : zeroV Tryz.prog 60 = some (.nils 1) := by kernel_rfl
theorem cells_78 : Tryz.prog.cellsOf 78 = 2 := by kernel_rfl
theorem bytes_78 : Tryz.prog.bytesOf 78 = 32 := by kernel_rfl
theorem str_78 : isStruct Tryz.prog 78 = true := by kernel_rfl
theorem ff_78 : fieldsFlat Tryz.prog 78 = true := by kernel_rfl
theorem fld_78_0 : fieldAt Tryz.prog 78 0 = true := by kernel_rfl
theorem sfld_78_0 : scalarField Tryz.prog 78 0 = true := by kernel_rfl
theorem fld_78_1 : fieldAt Tryz.prog 78 1 = true := by kernel_rfl
theorem sfld_78_1 : scalarField Tryz.prog 78 1 = true := by kernel_rfl
theorem cells_81 : Tryz.prog.cellsOf 81 = 1 := by kernel_rfl
theorem bytes_81 : Tryz.prog.bytesOf 81 = 8 := by kernel_rfl
theorem scal_81 : isScalarT Tryz.prog 81 = true := by kernel_rfl
theorem zero_81 : zeroV Tryz.prog 81 = some (.int .i64 0) := by kernel_rfl
theorem cells_89 : Tryz.prog.cellsOf 89 = 1 := by kernel_rfl
theorem bytes_89 : Tryz.prog.bytesOf 89 = 8 := by kernel_rfl
theorem scal_89 : isScalarT Tryz.prog 89 = true := by kernel_rfl
theorem zero_89 : zeroV Tryz.prog 89 = some (.int .u64 0) := by kernel_rfl
theorem cells_93 : Tryz.prog.cellsOf 93 = 1 := by kernel_rfl
theorem bytes_93 : Tryz.prog.bytesOf 93 = 8 := by kernel_rfl
theorem scal_93 : isScalarT Tryz.prog 93 = true := by kernel_rfl
theorem zero_93 : zeroV Tryz.prog 93 = some (.int .u64 0) := by kernel_rfl
theorem cells_97 : Tryz.prog.cellsOf 97 = 3 := by kernel_rfl
theorem bytes_97 : Tryz.prog.bytesOf 97 = 48 := by kernel_rfl
theorem str_97 : isStruct Tryz.prog 97 = true := by kernel_rfl
theorem ff_97 : fieldsFlat Tryz.prog 97 = true := by kernel_rfl
theorem fld_97_0 : fieldAt Tryz.prog 97 0 = true := by kernel_rfl
theorem sfld_97_0 : scalarField Tryz.prog 97 0 = true := by kernel_rfl
theorem fld_97_1 : fieldAt Tryz.prog 97 1 = true := by kernel_rfl
theorem sfld_97_1 : scalarField Tryz.prog 97 1 = true := by kernel_rfl
theorem fld_97_2 : fieldAt Tryz.prog 97 2 = true := by kernel_rfl
theorem sfld_97_2 : scalarField Tryz.prog 97 2 = true := by kernel_rfl
theorem cells_99 : Tryz.prog.cellsOf 99 = 1 := by kernel_rfl
theorem bytes_99 : Tryz.prog.bytesOf 99 = 4 := by kernel_rfl
theorem scal_99 : isScalarT Tryz.prog 99 = true := by kernel_rfl
theorem zero_99 : zeroV Tryz.prog 99 = some (.int .u32 0) := by kernel_rfl
theorem cells_115 : Tryz.prog.cellsOf 115 = 1 := by kernel_rfl
theorem bytes_115 : Tryz.prog.bytesOf 115 = 16 := by kernel_rfl
theorem str_115 : isStruct Tryz.prog 115 = true := by kernel_rfl
theorem ff_115 : fieldsFlat Tryz.prog 115 = true := by kernel_rfl
theorem fld_115_0 : fieldAt Tryz.prog 115 0 = true := by kernel_rfl
theorem sfld_115_0 : scalarField Tryz.prog 115 0 = true := by kernel_rfl
theorem zero_115 : zeroV Tryz.prog 115 = some (.agg [.str []]) := by kernel_rfl
theorem cells_122 : Tryz.prog.cellsOf 122 = 2 := by kernel_rfl
theorem bytes_122 : Tryz.prog.bytesOf 122 = 2 := by kernel_rfl
theorem str_122 : isStruct Tryz.prog 122 = true := by kernel_rfl
theorem ff_122 : fieldsFlat Tryz.prog 122 = true := by kernel_rfl
theorem fld_122_0 : fieldAt Tryz.prog 122 0 = true := by kernel_rfl
theorem sfld_122_0 : scalarField Tryz.prog 122 0 = true := by kernel_rfl
theorem fld_122_1 : fieldAt Tryz.prog 122 1 = true := by kernel_rfl
theorem sfld_122_1 : scalarField Tryz.prog 122 1 = true := by kernel_rfl
theorem zero_122 : zeroV Tryz.prog 122 = some (.agg [.int .u8 0, .int .u8 0]) := by kernel_rfl
theorem ifc_63 : ifaceT Tryz.prog 63 = true := by kernel_rfl
attribute [go_sem] Tryz.underlying2 Tryz.underlying3 Tryz.underlying4 Tryz.underlying5 Tryz.underlying9 Tryz.underlying21 Tryz.underlying22 Tryz.underlying24 Tryz.underlying35 Tryz.underlying49 Tryz.underlying51 Tryz.underlying60 Tryz.underlying78 Tryz.underlying81 Tryz.underlying89 Tryz.underlying93 Tryz.underlying97 Tryz.underlying99 Tryz.underlying115 Tryz.underlying122 cells_2 bytes_2 scal_2 zero_2 cells_3 bytes_3 scal_3 zero_3 cells_4 bytes_4 scal_4 zero_4 cells_5 bytes_5 scal_5 zero_5 cells_9 bytes_9 scal_9 zero_9 cells_21 bytes_21 scal_21 zero_21 cells_22 bytes_22 scal_22 zero_22 cells_24 bytes_24 str_24 ff_24 fld_24_0 fld_24_1 fld_24_2 fld_24_3 fld_24_4 fld_24_5 fld_24_6 sfld_24_0 sfld_24_1 sfld_24_2 sfld_24_3 sfld_24_4 sfld_24_5 sfld_24_6 zero_24 cells_35 bytes_35 scal_35 zero_35 cells_49 bytes_49 str_49 ff_49 fld_49_0 fld_49_1 sfld_49_0 sfld_49_1 zero_49 cells_51 bytes_51 scal_51 zero_51 cells_60 bytes_60 scal_60 zero_60 cells_78 bytes_78 str_78 ff_78 fld_78_0 fld_78_1 sfld_78_0 sfld_78_1 cells_81 bytes_81 scal_81 zero_81 cells_89 bytes_89 scal_89 zero_89 cells_93 bytes_93 scal_93 zero_93 cells_97 bytes_97 str_97 ff_97 fld_97_0 fld_97_1 fld_97_2 sfld_97_0 sfld_97_1 sfld_97_2 cells_99 bytes_99 scal_99 zero_99 cells_115 bytes_115 str_115 ff_115 fld_115_0 sfld_115_0 zero_115 cells_122 bytes_122 str_122 ff_122 fld_122_0 fld_122_1 sfld_122_0 sfld_122_1 zero_122 ifc_63
end Go.Proofs.YtnbkmmjnpbfhnaaGreatDoor.Ty
