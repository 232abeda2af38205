/- Facts on the types of the program, each looked up in it. -/
import Derived.Test.YtonjbbfgdloljaaGreatDoorVmSet
import Derived.Test.YtonjbbfgdloljaaGreatDoorProg
import Derived.KernelRfl
namespace Go.Proofs.YtonjbbfgdloljaaGreatDoor.Ty
open Go Go.VM
set_option maxRecDepth 100000
theorem cells_2 : Tryz.prog.cellsOf 2 = 1 := by kernel_rfl
theorem bytes_2 : Tryz.prog.bytesOf 2 = 8 := by kernel_rfl
theorem scal_2 : isScalarT Tryz.prog 2 = true := by kernel_rfl
theorem zero_2 : zeroV Tryz.prog 2 = some (.int .i64 0) := by kernel_rfl
theorem cells_3 : Tryz.prog.cellsOf 3 = 1 := by kernel_rfl
theorem bytes_3 : Tryz.prog.bytesOf 3 = 8 := by kernel_rfl
theorem scal_3 : isScalarT Tryz.prog 3 = true := by kernel_rfl
theorem zero_3 : zeroV Tryz.prog 3 = some (.int .i64 0) := by kernel_rfl
theorem cells_4 : Tryz.prog.cellsOf 4 = 1 := by kernel_rfl
theorem bytes_4 : Tryz.prog.bytesOf 4 = 1 := by kernel_rfl
theorem scal_4 : isScalarT Tryz.prog 4 = true := by kernel_rfl
theorem zero_4 : zeroV Tryz.prog 4 = some (.bool false) := by kernel_rfl
theorem cells_5 : Tryz.prog.cellsOf 5 = 1 := by kernel_rfl
theorem bytes_5 : Tryz.prog.bytesOf 5 = 1 := by kernel_rfl
theorem scal_5 : isScalarT Tryz.prog 5 = true := by kernel_rfl
theorem zero_5 : zeroV Tryz.prog 5 = some (.int .u8 0) := by kernel_rfl
theorem cells_9 : Tryz.prog.cellsOf 9 = 1 := by kernel_rfl
theorem bytes_9 : Tryz.prog.bytesOf 9 = 16 := by kernel_rfl
theorem scal_9 : isScalarT Tryz.prog 9 = true := by kernel_rfl
theorem zero_9 : zeroV Tryz.prog 9 = some (.str []) := by kernel_rfl
theorem cells_21 : Tryz.prog.cellsOf 21 = 1 := by kernel_rfl
theorem bytes_21 : Tryz.prog.bytesOf 21 = 4 := by kernel_rfl
theorem scal_21 : isScalarT Tryz.prog 21 = true := by kernel_rfl
theorem zero_21 : zeroV Tryz.prog 21 = some (.int .i32 0) := by kernel_rfl
theorem cells_22 : Tryz.prog.cellsOf 22 = 1 := by kernel_rfl
theorem bytes_22 : Tryz.prog.bytesOf 22 = 24 := by kernel_rfl
theorem scal_22 : isScalarT Tryz.prog 22 = true := by kernel_rfl
theorem zero_22 : zeroV Tryz.prog 22 = some (.nils 1) := by kernel_rfl
theorem cells_24 : Tryz.prog.cellsOf 24 = 1 := by kernel_rfl
theorem bytes_24 : Tryz.prog.bytesOf 24 = 24 := by kernel_rfl
theorem scal_24 : isScalarT Tryz.prog 24 = true := by kernel_rfl
theorem zero_24 : zeroV Tryz.prog 24 = some (.nils 2) := by kernel_rfl
theorem cells_35 : Tryz.prog.cellsOf 35 = 1 := by kernel_rfl
theorem bytes_35 : Tryz.prog.bytesOf 35 = 24 := by kernel_rfl
theorem scal_35 : isScalarT Tryz.prog 35 = true := by kernel_rfl
theorem zero_35 : zeroV Tryz.prog 35 = some (.nils 1) := by kernel_rfl
theorem cells_37 : Tryz.prog.cellsOf 37 = 1 := by kernel_rfl
theorem bytes_37 : Tryz.prog.bytesOf 37 = 24 := by kernel_rfl
theorem scal_37 : isScalarT Tryz.prog 37 = true := by kernel_rfl
theorem zero_37 : zeroV Tryz.prog 37 = some (.nils 3) := by kernel_rfl
theorem cells_41 : Tryz.prog.cellsOf 41 = 3 := by kernel_rfl
theorem bytes_41 : Tryz.prog.bytesOf 41 = 32 := by kernel_rfl
theorem str_41 : isStruct Tryz.prog 41 = true := by kernel_rfl
theorem ff_41 : fieldsFlat Tryz.prog 41 = true := by kernel_rfl
theorem seq_41 : structEq Tryz.prog 41 = some [0, 0, 1] := by kernel_rfl
theorem fld_41_0 : fieldAt Tryz.prog 41 0 = true := by kernel_rfl
theorem sfld_41_0 : scalarField Tryz.prog 41 0 = true := by kernel_rfl
theorem fld_41_1 : fieldAt Tryz.prog 41 1 = true := by kernel_rfl
theorem sfld_41_1 : scalarField Tryz.prog 41 1 = true := by kernel_rfl
theorem fld_41_2 : fieldAt Tryz.prog 41 2 = true := by kernel_rfl
theorem sfld_41_2 : scalarField Tryz.prog 41 2 = true := by kernel_rfl
theorem zero_41 : zeroV Tryz.prog 41 = some (.agg [.int .i64 0, .int .i64 0, .str []]) := by kernel_rfl
theorem cells_42 : Tryz.prog.cellsOf 42 = 1 := by kernel_rfl
theorem bytes_42 : Tryz.prog.bytesOf 42 = 24 := by kernel_rfl
theorem scal_42 : isScalarT Tryz.prog 42 = true := by kernel_rfl
theorem zero_42 : zeroV Tryz.prog 42 = some (.nils 4) := by kernel_rfl
theorem cells_43 : Tryz.prog.cellsOf 43 = 1 := by kernel_rfl
theorem bytes_43 : Tryz.prog.bytesOf 43 = 24 := by kernel_rfl
theorem scal_43 : isScalarT Tryz.prog 43 = true := by kernel_rfl
theorem zero_43 : zeroV Tryz.prog 43 = some (.nils 2) := by kernel_rfl
theorem cells_45 : Tryz.prog.cellsOf 45 = 7 := by kernel_rfl
theorem bytes_45 : Tryz.prog.bytesOf 45 = 96 := by kernel_rfl
theorem str_45 : isStruct Tryz.prog 45 = true := by kernel_rfl
theorem ff_45 : fieldsFlat Tryz.prog 45 = true := by kernel_rfl
theorem fld_45_0 : fieldAt Tryz.prog 45 0 = true := by kernel_rfl
theorem sfld_45_0 : scalarField Tryz.prog 45 0 = true := by kernel_rfl
theorem fld_45_1 : fieldAt Tryz.prog 45 1 = true := by kernel_rfl
theorem sfld_45_1 : scalarField Tryz.prog 45 1 = true := by kernel_rfl
theorem fld_45_2 : fieldAt Tryz.prog 45 2 = true := by kernel_rfl
theorem sfld_45_2 : scalarField Tryz.prog 45 2 = true := by kernel_rfl
theorem fld_45_3 : fieldAt Tryz.prog 45 3 = true := by kernel_rfl
theorem sfld_45_3 : scalarField Tryz.prog 45 3 = true := by kernel_rfl
theorem fld_45_4 : fieldAt Tryz.prog 45 4 = true := by kernel_rfl
theorem sfld_45_4 : scalarField Tryz.prog 45 4 = true := by kernel_rfl
theorem fld_45_5 : fieldAt Tryz.prog 45 5 = true := by kernel_rfl
theorem sfld_45_5 : scalarField Tryz.prog 45 5 = true := by kernel_rfl
theorem fld_45_6 : fieldAt Tryz.prog 45 6 = true := by kernel_rfl
theorem sfld_45_6 : scalarField Tryz.prog 45 6 = true := by kernel_rfl
theorem zero_45 : zeroV Tryz.prog 45 = some (.agg [.str [], .int .i64 0, .int .i64 0, .int .i64 0, .nils 4, .nils 2, .int .i64 0]) := by kernel_rfl
theorem cells_47 : Tryz.prog.cellsOf 47 = 1 := by kernel_rfl
theorem bytes_47 : Tryz.prog.bytesOf 47 = 24 := by kernel_rfl
theorem scal_47 : isScalarT Tryz.prog 47 = true := by kernel_rfl
theorem zero_47 : zeroV Tryz.prog 47 = some (.nils 1) := by kernel_rfl
theorem cells_50 : Tryz.prog.cellsOf 50 = 4 := by kernel_rfl
theorem bytes_50 : Tryz.prog.bytesOf 50 = 40 := by kernel_rfl
theorem str_50 : isStruct Tryz.prog 50 = true := by kernel_rfl
theorem ff_50 : fieldsFlat Tryz.prog 50 = true := by kernel_rfl
theorem fld_50_0 : fieldAt Tryz.prog 50 0 = true := by kernel_rfl
theorem sfld_50_0 : scalarField Tryz.prog 50 0 = true := by kernel_rfl
theorem fld_50_1 : fieldAt Tryz.prog 50 1 = true := by kernel_rfl
theorem sfld_50_1 : scalarField Tryz.prog 50 1 = true := by kernel_rfl
theorem fld_50_2 : fieldAt Tryz.prog 50 2 = true := by kernel_rfl
theorem sfld_50_2 : scalarField Tryz.prog 50 2 = true := by kernel_rfl
theorem fld_50_3 : fieldAt Tryz.prog 50 3 = true := by kernel_rfl
theorem sfld_50_3 : scalarField Tryz.prog 50 3 = true := by kernel_rfl
theorem zero_50 : zeroV Tryz.prog 50 = some (.agg [.int .i64 0, .int .i64 0, .int .i64 0, .str []]) := by kernel_rfl
theorem cells_82 : Tryz.prog.cellsOf 82 = 2 := by kernel_rfl
theorem bytes_82 : Tryz.prog.bytesOf 82 = 16 := by kernel_rfl
theorem str_82 : isStruct Tryz.prog 82 = true := by kernel_rfl
theorem ff_82 : fieldsFlat Tryz.prog 82 = true := by kernel_rfl
theorem fld_82_0 : fieldAt Tryz.prog 82 0 = true := by kernel_rfl
theorem sfld_82_0 : scalarField Tryz.prog 82 0 = true := by kernel_rfl
theorem fld_82_1 : fieldAt Tryz.prog 82 1 = true := by kernel_rfl
theorem sfld_82_1 : scalarField Tryz.prog 82 1 = true := by kernel_rfl
theorem zero_82 : zeroV Tryz.prog 82 = some (.agg [.int .i64 0, .int .i64 0]) := by kernel_rfl
theorem cells_94 : Tryz.prog.cellsOf 94 = 3 := by kernel_rfl
theorem bytes_94 : Tryz.prog.bytesOf 94 = 40 := by kernel_rfl
theorem str_94 : isStruct Tryz.prog 94 = true := by kernel_rfl
theorem ff_94 : fieldsFlat Tryz.prog 94 = true := by kernel_rfl
theorem fld_94_0 : fieldAt Tryz.prog 94 0 = true := by kernel_rfl
theorem sfld_94_0 : scalarField Tryz.prog 94 0 = true := by kernel_rfl
theorem fld_94_1 : fieldAt Tryz.prog 94 1 = true := by kernel_rfl
theorem sfld_94_1 : scalarField Tryz.prog 94 1 = true := by kernel_rfl
theorem fld_94_2 : fieldAt Tryz.prog 94 2 = true := by kernel_rfl
theorem sfld_94_2 : scalarField Tryz.prog 94 2 = true := by kernel_rfl
theorem zero_94 : zeroV Tryz.prog 94 = some (.agg [.nils 1, .int .i64 0, .int .i64 0]) := by kernel_rfl
theorem cells_102 : Tryz.prog.cellsOf 102 = 1 := by kernel_rfl
theorem bytes_102 : Tryz.prog.bytesOf 102 = 24 := by kernel_rfl
theorem scal_102 : isScalarT Tryz.prog 102 = true := by kernel_rfl
theorem zero_102 : zeroV Tryz.prog 102 = some (.nils 1) := by kernel_rfl
theorem cells_117 : Tryz.prog.cellsOf 117 = 1 := by kernel_rfl
theorem bytes_117 : Tryz.prog.bytesOf 117 = 8 := by kernel_rfl
theorem scal_117 : isScalarT Tryz.prog 117 = true := by kernel_rfl
theorem zero_117 : zeroV Tryz.prog 117 = some (.int .u64 0) := by kernel_rfl
theorem cells_120 : Tryz.prog.cellsOf 120 = 2 := by kernel_rfl
theorem bytes_120 : Tryz.prog.bytesOf 120 = 16 := by kernel_rfl
theorem str_120 : isStruct Tryz.prog 120 = true := by kernel_rfl
theorem ff_120 : fieldsFlat Tryz.prog 120 = true := by kernel_rfl
theorem fld_120_0 : fieldAt Tryz.prog 120 0 = true := by kernel_rfl
theorem sfld_120_0 : scalarField Tryz.prog 120 0 = true := by kernel_rfl
theorem fld_120_1 : fieldAt Tryz.prog 120 1 = true := by kernel_rfl
theorem sfld_120_1 : scalarField Tryz.prog 120 1 = true := by kernel_rfl
theorem zero_120 : zeroV Tryz.prog 120 = some (.agg [.int .i64 0, .int .i64 0]) := by kernel_rfl
theorem cells_165 : Tryz.prog.cellsOf 165 = 1 := by kernel_rfl
theorem bytes_165 : Tryz.prog.bytesOf 165 = 8 := by kernel_rfl
theorem scal_165 : isScalarT Tryz.prog 165 = true := by kernel_rfl
theorem zero_165 : zeroV Tryz.prog 165 = some (.int .u64 0) := by kernel_rfl
theorem cells_173 : Tryz.prog.cellsOf 173 = 1 := by kernel_rfl
theorem bytes_173 : Tryz.prog.bytesOf 173 = 8 := by kernel_rfl
theorem scal_173 : isScalarT Tryz.prog 173 = true := by kernel_rfl
theorem zero_173 : zeroV Tryz.prog 173 = some (.int .i64 0) := by kernel_rfl
theorem cells_179 : Tryz.prog.cellsOf 179 = 1 := by kernel_rfl
theorem bytes_179 : Tryz.prog.bytesOf 179 = 4 := by kernel_rfl
theorem scal_179 : isScalarT Tryz.prog 179 = true := by kernel_rfl
theorem zero_179 : zeroV Tryz.prog 179 = some (.int .u32 0) := by kernel_rfl
theorem cells_193 : Tryz.prog.cellsOf 193 = 3 := by kernel_rfl
theorem bytes_193 : Tryz.prog.bytesOf 193 = 48 := by kernel_rfl
theorem str_193 : isStruct Tryz.prog 193 = true := by kernel_rfl
theorem ff_193 : fieldsFlat Tryz.prog 193 = true := by kernel_rfl
theorem fld_193_0 : fieldAt Tryz.prog 193 0 = true := by kernel_rfl
theorem sfld_193_0 : scalarField Tryz.prog 193 0 = true := by kernel_rfl
theorem fld_193_1 : fieldAt Tryz.prog 193 1 = true := by kernel_rfl
theorem sfld_193_1 : scalarField Tryz.prog 193 1 = true := by kernel_rfl
theorem fld_193_2 : fieldAt Tryz.prog 193 2 = true := by kernel_rfl
theorem sfld_193_2 : scalarField Tryz.prog 193 2 = true := by kernel_rfl
theorem cells_200 : Tryz.prog.cellsOf 200 = 1 := by kernel_rfl
theorem bytes_200 : Tryz.prog.bytesOf 200 = 16 := by kernel_rfl
theorem str_200 : isStruct Tryz.prog 200 = true := by kernel_rfl
theorem ff_200 : fieldsFlat Tryz.prog 200 = true := by kernel_rfl
theorem fld_200_0 : fieldAt Tryz.prog 200 0 = true := by kernel_rfl
theorem sfld_200_0 : scalarField Tryz.prog 200 0 = true := by kernel_rfl
theorem zero_200 : zeroV Tryz.prog 200 = some (.agg [.str []]) := by kernel_rfl
theorem cells_203 : Tryz.prog.cellsOf 203 = 2 := by kernel_rfl
theorem bytes_203 : Tryz.prog.bytesOf 203 = 2 := by kernel_rfl
theorem str_203 : isStruct Tryz.prog 203 = true := by kernel_rfl
theorem ff_203 : fieldsFlat Tryz.prog 203 = true := by kernel_rfl
theorem fld_203_0 : fieldAt Tryz.prog 203 0 = true := by kernel_rfl
theorem sfld_203_0 : scalarField Tryz.prog 203 0 = true := by kernel_rfl
theorem fld_203_1 : fieldAt Tryz.prog 203 1 = true := by kernel_rfl
theorem sfld_203_1 : scalarField Tryz.prog 203 1 = true := by kernel_rfl
theorem zero_203 : zeroV Tryz.prog 203 = some (.agg [.int .u8 0, .int .u8 0]) := by kernel_rfl
theorem ifc_135 : ifaceT Tryz.prog 135 = true := by kernel_rfl
attribute [go_sem] Tryz.underlying2 Tryz.underlying3 Tryz.underlying4 Tryz.underlying5 Tryz.underlying9 Tryz.underlying21 Tryz.underlying22 Tryz.underlying24 Tryz.underlying35 Tryz.underlying37 Tryz.underlying41 Tryz.underlying42 Tryz.underlying43 Tryz.underlying45 Tryz.underlying47 Tryz.underlying50 Tryz.underlying82 Tryz.underlying94 Tryz.underlying102 Tryz.underlying117 Tryz.underlying120 Tryz.underlying165 Tryz.underlying173 Tryz.underlying179 Tryz.underlying193 Tryz.underlying200 Tryz.underlying203 cells_2 bytes_2 scal_2 zero_2 cells_3 bytes_3 scal_3 zero_3 cells_4 bytes_4 scal_4 zero_4 cells_5 bytes_5 scal_5 zero_5 cells_9 bytes_9 scal_9 zero_9 cells_21 bytes_21 scal_21 zero_21 cells_22 bytes_22 scal_22 zero_22 cells_24 bytes_24 scal_24 zero_24 cells_35 bytes_35 scal_35 zero_35 cells_37 bytes_37 scal_37 zero_37 cells_41 bytes_41 str_41 ff_41 seq_41 fld_41_0 fld_41_1 fld_41_2 sfld_41_0 sfld_41_1 sfld_41_2 zero_41 cells_42 bytes_42 scal_42 zero_42 cells_43 bytes_43 scal_43 zero_43 cells_45 bytes_45 str_45 ff_45 fld_45_0 fld_45_1 fld_45_2 fld_45_3 fld_45_4 fld_45_5 fld_45_6 sfld_45_0 sfld_45_1 sfld_45_2 sfld_45_3 sfld_45_4 sfld_45_5 sfld_45_6 zero_45 cells_47 bytes_47 scal_47 zero_47 cells_50 bytes_50 str_50 ff_50 fld_50_0 fld_50_1 fld_50_2 fld_50_3 sfld_50_0 sfld_50_1 sfld_50_2 sfld_50_3 zero_50 cells_82 bytes_82 str_82 ff_82 fld_82_0 fld_82_1 sfld_82_0 sfld_82_1 zero_82 cells_94 bytes_94 str_94 ff_94 fld_94_0 fld_94_1 fld_94_2 sfld_94_0 sfld_94_1 sfld_94_2 zero_94 cells_102 bytes_102 scal_102 zero_102 cells_117 bytes_117 scal_117 zero_117 cells_120 bytes_120 str_120 ff_120 fld_120_0 fld_120_1 sfld_120_0 sfld_120_1 zero_120 cells_165 bytes_165 scal_165 zero_165 cells_173 bytes_173 scal_173 zero_173 cells_179 bytes_179 scal_179 zero_179 cells_193 bytes_193 str_193 ff_193 fld_193_0 fld_193_1 fld_193_2 sfld_193_0 sfld_193_1 sfld_193_2 cells_200 bytes_200 str_200 ff_200 fld_200_0 sfld_200_0 zero_200 cells_203 bytes_203 str_203 ff_203 fld_203_0 fld_203_1 sfld_203_0 sfld_203_1 zero_203 ifc_135
end Go.Proofs.YtonjbbfgdloljaaGreatDoor.Ty
