/- Facts on the types of the program, each looked up in it. -/
import Derived.Test.YtimiccneikhkgaaGreatDoorVmSet
import Derived.Test.YtimiccneikhkgaaGreatDoorProg
import Derived.KernelRfl
namespace Go.Proofs.YtimiccneikhkgaaGreatDoor.Ty
open Go Go.VM
set_option maxRecDepth 100000
theorem cells_3 : Tryz.prog.cellsOf 3 = 1 := by kernel_rfl
theorem bytes_3 : Tryz.prog.bytesOf 3 = 8 := by kernel_rfl
theorem scal_3 : isScalarT Tryz.prog 3 = true := by kernel_rfl
theorem zero_3 : zeroV Tryz.prog 3 = some (.int .i64 0) := by kernel_rfl
theorem cells_4 : Tryz.prog.cellsOf 4 = 1 := by kernel_rfl
theorem bytes_4 : Tryz.prog.bytesOf 4 = 1 := by kernel_rfl
theorem scal_4 : isScalarT Tryz.prog 4 = true := by kernel_rfl
theorem zero_4 : zeroV Tryz.prog 4 = some (.bool false) := by kernel_rfl
theorem cells_5 : Tryz.prog.cellsOf 5 = 1 := by kernel_rfl
theorem bytes_5 : Tryz.prog.bytesOf 5 = 1 := by kernel_rfl
theorem scal_5 : isScalarT Tryz.prog 5 = true := by kernel_rfl
theorem zero_5 : zeroV Tryz.prog 5 = some (.int .u8 0) := by kernel_rfl
theorem cells_9 : Tryz.prog.cellsOf 9 = 1 := by kernel_rfl
theorem bytes_9 : Tryz.prog.bytesOf 9 = 16 := by kernel_rfl
theorem scal_9 : isScalarT Tryz.prog 9 = true := by kernel_rfl
theorem zero_9 : zeroV Tryz.prog 9 = some (.str []) := by kernel_rfl
theorem cells_21 : Tryz.prog.cellsOf 21 = 1 := by kernel_rfl
theorem bytes_21 : Tryz.prog.bytesOf 21 = 4 := by kernel_rfl
theorem scal_21 : isScalarT Tryz.prog 21 = true := by kernel_rfl
theorem zero_21 : zeroV Tryz.prog 21 = some (.int .i32 0) := by kernel_rfl
theorem cells_22 : Tryz.prog.cellsOf 22 = 1 := by kernel_rfl
theorem bytes_22 : Tryz.prog.bytesOf 22 = 24 := by kernel_rfl
theorem scal_22 : isScalarT Tryz.prog 22 = true := by kernel_rfl
theorem zero_22 : zeroV Tryz.prog 22 = some (.nils 1) := by kernel_rfl
theorem cells_24 : Tryz.prog.cellsOf 24 = 1 := by kernel_rfl
theorem bytes_24 : Tryz.prog.bytesOf 24 = 24 := by kernel_rfl
theorem scal_24 : isScalarT Tryz.prog 24 = true := by kernel_rfl
theorem zero_24 : zeroV Tryz.prog 24 = some (.nils 2) := by kernel_rfl
theorem cells_35 : Tryz.prog.cellsOf 35 = 1 := by kernel_rfl
theorem bytes_35 : Tryz.prog.bytesOf 35 = 24 := by kernel_rfl
theorem scal_35 : isScalarT Tryz.prog 35 = true := by kernel_rfl
theorem zero_35 : zeroV Tryz.prog 35 = some (.nils 4) := by kernel_rfl
theorem cells_36 : Tryz.prog.cellsOf 36 = 1 := by kernel_rfl
theorem bytes_36 : Tryz.prog.bytesOf 36 = 24 := by kernel_rfl
theorem scal_36 : isScalarT Tryz.prog 36 = true := by kernel_rfl
theorem zero_36 : zeroV Tryz.prog 36 = some (.nils 2) := by kernel_rfl
theorem cells_38 : Tryz.prog.cellsOf 38 = 7 := by kernel_rfl
theorem bytes_38 : Tryz.prog.bytesOf 38 = 96 := by kernel_rfl
theorem str_38 : isStruct Tryz.prog 38 = true := by kernel_rfl
theorem ff_38 : fieldsFlat Tryz.prog 38 = true := by kernel_rfl
theorem fld_38_0 : fieldAt Tryz.prog 38 0 = true := by kernel_rfl
theorem sfld_38_0 : scalarField Tryz.prog 38 0 = true := by kernel_rfl
theorem fld_38_1 : fieldAt Tryz.prog 38 1 = true := by kernel_rfl
theorem sfld_38_1 : scalarField Tryz.prog 38 1 = true := by kernel_rfl
theorem fld_38_2 : fieldAt Tryz.prog 38 2 = true := by kernel_rfl
theorem sfld_38_2 : scalarField Tryz.prog 38 2 = true := by kernel_rfl
theorem fld_38_3 : fieldAt Tryz.prog 38 3 = true := by kernel_rfl
theorem sfld_38_3 : scalarField Tryz.prog 38 3 = true := by kernel_rfl
theorem fld_38_4 : fieldAt Tryz.prog 38 4 = true := by kernel_rfl
theorem sfld_38_4 : scalarField Tryz.prog 38 4 = true := by kernel_rfl
theorem fld_38_5 : fieldAt Tryz.prog 38 5 = true := by kernel_rfl
theorem sfld_38_5 : scalarField Tryz.prog 38 5 = true := by kernel_rfl
theorem fld_38_6 : fieldAt Tryz.prog 38 6 = true := by kernel_rfl
theorem sfld_38_6 : scalarField Tryz.prog 38 6 = true := by kernel_rfl
theorem zero_38 : zeroV Tryz.prog 38 = some (.agg [.str [], .int .i64 0, .int .i64 0, .int .i64 0, .nils 4, .nils 2, .int .i64 0]) := by kernel_rfl
theorem cells_40 : Tryz.prog.cellsOf 40 = 1 := by kernel_rfl
theorem bytes_40 : Tryz.prog.bytesOf 40 = 24 := by kernel_rfl
theorem scal_40 : isScalarT Tryz.prog 40 = true := by kernel_rfl
theorem zero_40 : zeroV Tryz.prog 40 = some (.nils 3) := by kernel_rfl
theorem cells_45 : Tryz.prog.cellsOf 45 = 4 := by kernel_rfl
theorem bytes_45 : Tryz.prog.bytesOf 45 = 40 := by kernel_rfl
theorem str_45 : isStruct Tryz.prog 45 = true := by kernel_rfl
theorem ff_45 : fieldsFlat Tryz.prog 45 = true := by kernel_rfl
theorem fld_45_0 : fieldAt Tryz.prog 45 0 = true := by kernel_rfl
theorem sfld_45_0 : scalarField Tryz.prog 45 0 = true := by kernel_rfl
theorem fld_45_1 : fieldAt Tryz.prog 45 1 = true := by kernel_rfl
theorem sfld_45_1 : scalarField Tryz.prog 45 1 = true := by kernel_rfl
theorem fld_45_2 : fieldAt Tryz.prog 45 2 = true := by kernel_rfl
theorem sfld_45_2 : scalarField Tryz.prog 45 2 = true := by kernel_rfl
theorem fld_45_3 : fieldAt Tryz.prog 45 3 = true := by kernel_rfl
theorem sfld_45_3 : scalarField Tryz.prog 45 3 = true := by kernel_rfl
theorem zero_45 : zeroV Tryz.prog 45 = some (.agg [.int .i64 0, .int .i64 0, .int .i64 0, .str []]) := by kernel_rfl
theorem cells_47 : Tryz.prog.cellsOf 47 = 3 := by kernel_rfl
theorem bytes_47 : Tryz.prog.bytesOf 47 = 32 := by kernel_rfl
theorem str_47 : isStruct Tryz.prog 47 = true := by kernel_rfl
theorem ff_47 : fieldsFlat Tryz.prog 47 = true := by kernel_rfl
theorem fld_47_0 : fieldAt Tryz.prog 47 0 = true := by kernel_rfl
theorem sfld_47_0 : scalarField Tryz.prog 47 0 = true := by kernel_rfl
theorem fld_47_1 : fieldAt Tryz.prog 47 1 = true := by kernel_rfl
theorem sfld_47_1 : scalarField Tryz.prog 47 1 = true := by kernel_rfl
theorem fld_47_2 : fieldAt Tryz.prog 47 2 = true := by kernel_rfl
theorem sfld_47_2 : scalarField Tryz.prog 47 2 = true := by kernel_rfl
theorem zero_47 : zeroV Tryz.prog 47 = some (.agg [.int .i64 0, .int .i64 0, .str []]) := by kernel_rfl
theorem cells_101 : Tryz.prog.cellsOf 101 = 1 := by kernel_rfl
theorem bytes_101 : Tryz.prog.bytesOf 101 = 24 := by kernel_rfl
theorem scal_101 : isScalarT Tryz.prog 101 = true := by kernel_rfl
theorem zero_101 : zeroV Tryz.prog 101 = some (.nils 1) := by kernel_rfl
theorem cells_104 : Tryz.prog.cellsOf 104 = 1 := by kernel_rfl
theorem bytes_104 : Tryz.prog.bytesOf 104 = 24 := by kernel_rfl
theorem scal_104 : isScalarT Tryz.prog 104 = true := by kernel_rfl
theorem zero_104 : zeroV Tryz.prog 104 = some (.nils 1) := by kernel_rfl
theorem cells_110 : Tryz.prog.cellsOf 110 = 2 := by kernel_rfl
theorem bytes_110 : Tryz.prog.bytesOf 110 = 16 := by kernel_rfl
theorem str_110 : isStruct Tryz.prog 110 = true := by kernel_rfl
theorem ff_110 : fieldsFlat Tryz.prog 110 = true := by kernel_rfl
theorem seq_110 : structEq Tryz.prog 110 = some [0, 0] := by kernel_rfl
theorem fld_110_0 : fieldAt Tryz.prog 110 0 = true := by kernel_rfl
theorem sfld_110_0 : scalarField Tryz.prog 110 0 = true := by kernel_rfl
theorem fld_110_1 : fieldAt Tryz.prog 110 1 = true := by kernel_rfl
theorem sfld_110_1 : scalarField Tryz.prog 110 1 = true := by kernel_rfl
theorem zero_110 : zeroV Tryz.prog 110 = some (.agg [.int .i64 0, .int .i64 0]) := by kernel_rfl
theorem cells_131 : Tryz.prog.cellsOf 131 = 3 := by kernel_rfl
theorem bytes_131 : Tryz.prog.bytesOf 131 = 40 := by kernel_rfl
theorem str_131 : isStruct Tryz.prog 131 = true := by kernel_rfl
theorem ff_131 : fieldsFlat Tryz.prog 131 = true := by kernel_rfl
theorem fld_131_0 : fieldAt Tryz.prog 131 0 = true := by kernel_rfl
theorem sfld_131_0 : scalarField Tryz.prog 131 0 = true := by kernel_rfl
theorem fld_131_1 : fieldAt Tryz.prog 131 1 = true := by kernel_rfl
theorem sfld_131_1 : scalarField Tryz.prog 131 1 = true := by kernel_rfl
theorem fld_131_2 : fieldAt Tryz.prog 131 2 = true := by kernel_rfl
theorem sfld_131_2 : scalarField Tryz.prog 131 2 = true := by kernel_rfl
theorem zero_131 : zeroV Tryz.prog 131 = some (.agg [.nils 1, .int .i64 0, .int .i64 0]) := by kernel_rfl
theorem cells_144 : Tryz.prog.cellsOf 144 = 1 := by kernel_rfl
theorem bytes_144 : Tryz.prog.bytesOf 144 = 24 := by kernel_rfl
theorem scal_144 : isScalarT Tryz.prog 144 = true := by kernel_rfl
theorem zero_144 : zeroV Tryz.prog 144 = some (.nils 1) := by kernel_rfl
theorem cells_165 : Tryz.prog.cellsOf 165 = 2 := by kernel_rfl
theorem bytes_165 : Tryz.prog.bytesOf 165 = 16 := by kernel_rfl
theorem str_165 : isStruct Tryz.prog 165 = true := by kernel_rfl
theorem ff_165 : fieldsFlat Tryz.prog 165 = true := by kernel_rfl
theorem fld_165_0 : fieldAt Tryz.prog 165 0 = true := by kernel_rfl
theorem sfld_165_0 : scalarField Tryz.prog 165 0 = true := by kernel_rfl
theorem fld_165_1 : fieldAt Tryz.prog 165 1 = true := by kernel_rfl
theorem sfld_165_1 : scalarField Tryz.prog 165 1 = true := by kernel_rfl
theorem zero_165 : zeroV Tryz.prog 165 = some (.agg [.int .i64 0, .int .i64 0]) := by kernel_rfl
theorem cells_175 : Tryz.prog.cellsOf 175 = 1 := by kernel_rfl
theorem bytes_175 : Tryz.prog.bytesOf 175 = 4 := by kernel_rfl
theorem scal_175 : isScalarT Tryz.prog 175 = true := by kernel_rfl
theorem zero_175 : zeroV Tryz.prog 175 = some (.int .u32 0) := by kernel_rfl
theorem cells_191 : Tryz.prog.cellsOf 191 = 1 := by kernel_rfl
theorem bytes_191 : Tryz.prog.bytesOf 191 = 8 := by kernel_rfl
theorem scal_191 : isScalarT Tryz.prog 191 = true := by kernel_rfl
theorem zero_191 : zeroV Tryz.prog 191 = some (.int .u64 0) := by kernel_rfl
theorem cells_245 : Tryz.prog.cellsOf 245 = 2 := by kernel_rfl
theorem bytes_245 : Tryz.prog.bytesOf 245 = 2 := by kernel_rfl
theorem str_245 : isStruct Tryz.prog 245 = true := by kernel_rfl
theorem ff_245 : fieldsFlat Tryz.prog 245 = true := by kernel_rfl
theorem fld_245_0 : fieldAt Tryz.prog 245 0 = true := by kernel_rfl
theorem sfld_245_0 : scalarField Tryz.prog 245 0 = true := by kernel_rfl
theorem fld_245_1 : fieldAt Tryz.prog 245 1 = true := by kernel_rfl
theorem sfld_245_1 : scalarField Tryz.prog 245 1 = true := by kernel_rfl
theorem zero_245 : zeroV Tryz.prog 245 = some (.agg [.int .u8 0, .int .u8 0]) := by kernel_rfl
attribute [go_sem] Tryz.underlying3 Tryz.underlying4 Tryz.underlying5 Tryz.underlying9 Tryz.underlying21 Tryz.underlying22 Tryz.underlying24 Tryz.underlying35 Tryz.underlying36 Tryz.underlying38 Tryz.underlying40 Tryz.underlying45 Tryz.underlying47 Tryz.underlying101 Tryz.underlying104 Tryz.underlying110 Tryz.underlying131 Tryz.underlying144 Tryz.underlying165 Tryz.underlying175 Tryz.underlying191 Tryz.underlying245 cells_3 bytes_3 scal_3 zero_3 cells_4 bytes_4 scal_4 zero_4 cells_5 bytes_5 scal_5 zero_5 cells_9 bytes_9 scal_9 zero_9 cells_21 bytes_21 scal_21 zero_21 cells_22 bytes_22 scal_22 zero_22 cells_24 bytes_24 scal_24 zero_24 cells_35 bytes_35 scal_35 zero_35 cells_36 bytes_36 scal_36 zero_36 cells_38 bytes_38 str_38 ff_38 fld_38_0 fld_38_1 fld_38_2 fld_38_3 fld_38_4 fld_38_5 fld_38_6 sfld_38_0 sfld_38_1 sfld_38_2 sfld_38_3 sfld_38_4 sfld_38_5 sfld_38_6 zero_38 cells_40 bytes_40 scal_40 zero_40 cells_45 bytes_45 str_45 ff_45 fld_45_0 fld_45_1 fld_45_2 fld_45_3 sfld_45_0 sfld_45_1 sfld_45_2 sfld_45_3 zero_45 cells_47 bytes_47 str_47 ff_47 fld_47_0 fld_47_1 fld_47_2 sfld_47_0 sfld_47_1 sfld_47_2 zero_47 cells_101 bytes_101 scal_101 zero_101 cells_104 bytes_104 scal_104 zero_104 cells_110 bytes_110 str_110 ff_110 seq_110 fld_110_0 fld_110_1 sfld_110_0 sfld_110_1 zero_110 cells_131 bytes_131 str_131 ff_131 fld_131_0 fld_131_1 fld_131_2 sfld_131_0 sfld_131_1 sfld_131_2 zero_131 cells_144 bytes_144 scal_144 zero_144 cells_165 bytes_165 str_165 ff_165 fld_165_0 fld_165_1 sfld_165_0 sfld_165_1 zero_165 cells_175 bytes_175 scal_175 zero_175 cells_191 bytes_191 scal_191 zero_191 cells_245 bytes_245 str_245 ff_245 fld_245_0 fld_245_1 sfld_245_0 sfld_245_1 zero_245
end Go.Proofs.YtimiccneikhkgaaGreatDoor.Ty
