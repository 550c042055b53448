/- The table of types of the program. No condition. -/
import Derived.Test.YtlopkgjiccppfaaDoorTy
import Derived.Test.YtlopkgjiccppfaaDoorProg
namespace Vg
open Go Go.Proofs

def ty3 : TyI := ⟨false, 1, 8, [.int .i64 0], [.int .i64 0], .int .i64⟩
def ty4 : TyI := ⟨false, 1, 1, [.bool false], [.bool false], .bool⟩
def ty57 : TyI := ⟨true, 4, 32, [.int .i64 0, .int .i64 0, .int .i64 0, .int .i64 0], [.int .i64 0, .int .i64 0, .int .i64 0, .int .i64 0], .flds [(0, 3), (1, 3), (2, 3), (3, 3)]⟩
def ty31 : TyI := ⟨true, 4, 48, [.int .i64 0, .int .i64 0, .int .i64 0, .slice none 0 0], [.int .i64 0, .int .i64 0, .int .i64 0, .seq .inss []], .flds [(0, 3), (1, 3), (2, 3), (3, 29)]⟩
def ty2 : TyI := ⟨false, 1, 8, [.int .i64 0], [.int .i64 0], .int .i64⟩
def ty5 : TyI := ⟨false, 1, 1, [.int .u8 0], [.int .u8 0], .int .u8⟩
def ty6 : TyI := ⟨false, 1, 1, [.int .u8 0], [.int .u8 0], .int .u8⟩
def ty7 : TyI := ⟨true, 4, 24, [.int .i64 0, .int .i64 0, .bool false, .int .u8 0], [.int .i64 0, .int .i64 0, .bool false, .int .u8 0], .flds [(0, 2), (1, 3), (2, 4), (3, 6)]⟩
def ty8 : TyI := ⟨true, 4, 24, [.int .i64 0, .int .i64 0, .bool false, .int .u8 0], [.int .i64 0, .int .i64 0, .bool false, .int .u8 0], .flds [(0, 2), (1, 3), (2, 4), (3, 6)]⟩
def ty9 : TyI := ⟨false, 1, 16, [.string ByteArray.empty], [.str ByteArray.empty], .str⟩
def ty10 : TyI := ⟨false, 1, 16, [.string ByteArray.empty], [.str ByteArray.empty], .str⟩
def ty11 : TyI := ⟨false, 1, 16, [.string ByteArray.empty], [.str ByteArray.empty], .str⟩
def ty12 : TyI := ⟨false, 1, 8, [.int .u64 0], [.int .u64 0], .int .u64⟩
def ty13 : TyI := ⟨true, 2, 24, [.string ByteArray.empty, .int .u64 0], [.str ByteArray.empty, .int .u64 0], .flds [(0, 9), (1, 12)]⟩
def ty14 : TyI := ⟨true, 2, 24, [.string ByteArray.empty, .int .u64 0], [.str ByteArray.empty, .int .u64 0], .flds [(0, 9), (1, 12)]⟩
def ty20 : TyI := ⟨false, 1, 16, [.nilIface], [.err false], .iface⟩
def ty21 : TyI := ⟨false, 1, 4, [.int .i32 0], [.int .i32 0], .int .i32⟩
def ty22 : TyI := ⟨false, 1, 24, [.slice none 0 0], [.seq .inss []], .slice 59 .inss⟩
def ty23 : TyI := ⟨true, 4, 48, [.int .i64 0, .int .i64 0, .int .i64 0, .slice none 0 0], [.int .i64 0, .int .i64 0, .int .i64 0, .seq .inss []], .flds [(0, 3), (1, 3), (2, 3), (3, 22)]⟩
def ty24 : TyI := ⟨true, 4, 48, [.int .i64 0, .int .i64 0, .int .i64 0, .slice none 0 0], [.int .i64 0, .int .i64 0, .int .i64 0, .seq .inss []], .flds [(0, 3), (1, 3), (2, 3), (3, 22)]⟩
def ty25 : TyI := ⟨true, 4, 32, [.int .i64 0, .int .i64 0, .int .i64 0, .int .i64 0], [.int .i64 0, .int .i64 0, .int .i64 0, .int .i64 0], .flds [(0, 3), (1, 3), (2, 3), (3, 3)]⟩
def ty26 : TyI := ⟨true, 4, 32, [.int .i64 0, .int .i64 0, .int .i64 0, .int .i64 0], [.int .i64 0, .int .i64 0, .int .i64 0, .int .i64 0], .flds [(0, 3), (1, 3), (2, 3), (3, 3)]⟩
def ty29 : TyI := ⟨false, 1, 24, [.slice none 0 0], [.seq .inss []], .slice 57 .inss⟩
def ty30 : TyI := ⟨true, 4, 48, [.int .i64 0, .int .i64 0, .int .i64 0, .slice none 0 0], [.int .i64 0, .int .i64 0, .int .i64 0, .seq .inss []], .flds [(0, 3), (1, 3), (2, 3), (3, 29)]⟩
def ty33 : TyI := ⟨true, 4, 32, [.int .i64 0, .int .i64 0, .int .i64 0, .int .i64 0], [.int .i64 0, .int .i64 0, .int .i64 0, .int .i64 0], .flds [(0, 3), (1, 3), (2, 3), (3, 3)]⟩
def ty44 : TyI := ⟨false, 1, 24, [.slice none 0 0], [.seq .strs []], .slice 9 .strs⟩
def ty55 : TyI := ⟨false, 1, 24, [.slice none 0 0], [.seq .bytes []], .slice 5 .bytes⟩
def ty56 : TyI := ⟨true, 4, 32, [.int .i64 0, .int .i64 0, .int .i64 0, .int .i64 0], [.int .i64 0, .int .i64 0, .int .i64 0, .int .i64 0], .flds [(0, 3), (1, 3), (2, 3), (3, 3)]⟩
def ty59 : TyI := ⟨true, 4, 32, [.int .i64 0, .int .i64 0, .int .i64 0, .int .i64 0], [.int .i64 0, .int .i64 0, .int .i64 0, .int .i64 0], .flds [(0, 3), (1, 3), (2, 3), (3, 3)]⟩
def ty69 : TyI := ⟨false, 1, 16, [.nilIface], [.err false], .iface⟩
def ty70 : TyI := ⟨false, 1, 16, [.nilIface], [.err false], .iface⟩
def ty73 : TyI := ⟨false, 1, 8, [.int .u64 0], [.int .u64 0], .int .u64⟩
def ty80 : TyI := ⟨false, 1, 8, [.int .u64 0], [.int .u64 0], .int .u64⟩
def ty85 : TyI := ⟨false, 1, 8, [.int .i64 0], [.int .i64 0], .int .i64⟩
def ty93 : TyI := ⟨false, 1, 4, [.int .u32 0], [.int .u32 0], .int .u32⟩
def ty97 : TyI := ⟨true, 2, 2, [.int .u8 0, .int .u8 0], [.int .u8 0, .int .u8 0], .flds [(0, 5), (1, 5)]⟩
def ty98 : TyI := ⟨true, 2, 2, [.int .u8 0, .int .u8 0], [.int .u8 0, .int .u8 0], .flds [(0, 5), (1, 5)]⟩
def ty105 : TyI := ⟨true, 3, 48, [.string ByteArray.empty, .string ByteArray.empty, .nilIface], [.str ByteArray.empty, .str ByteArray.empty, .err false], .flds [(0, 9), (1, 9), (2, 70)]⟩
def ty106 : TyI := ⟨true, 3, 48, [.string ByteArray.empty, .string ByteArray.empty, .nilIface], [.str ByteArray.empty, .str ByteArray.empty, .err false], .flds [(0, 9), (1, 9), (2, 70)]⟩
def ty113 : TyI := ⟨true, 1, 16, [.string ByteArray.empty], [.str ByteArray.empty], .flds [(0, 9)]⟩
def ty114 : TyI := ⟨true, 1, 16, [.string ByteArray.empty], [.str ByteArray.empty], .flds [(0, 9)]⟩
def ty124 : TyI := ⟨false, 1, 1, [.int .u8 0], [.int .u8 0], .int .u8⟩
def ty125 : TyI := ⟨false, 1, 1, [.int .u8 0], [.int .u8 0], .int .u8⟩
def ty127 : TyI := ⟨false, 1, 4, [.int .i32 0], [.int .i32 0], .int .i32⟩
def ty128 : TyI := ⟨false, 1, 4, [.int .i32 0], [.int .i32 0], .int .i32⟩

def tauL : List (Nat × TyI) := [(3, ty3), (4, ty4), (57, ty57), (31, ty31), (2, ty2), (5, ty5), (6, ty6), (7, ty7), (8, ty8), (9, ty9), (10, ty10), (11, ty11), (12, ty12), (13, ty13), (14, ty14), (20, ty20), (21, ty21), (22, ty22), (23, ty23), (24, ty24), (25, ty25), (26, ty26), (29, ty29), (30, ty30), (33, ty33), (44, ty44), (55, ty55), (56, ty56), (59, ty59), (69, ty69), (70, ty70), (73, ty73), (80, ty80), (85, ty85), (93, ty93), (97, ty97), (98, ty98), (105, ty105), (106, ty106), (113, ty113), (114, ty114), (124, ty124), (125, ty125), (127, ty127), (128, ty128)]
def tau : Tys := lookTy tauL

set_option maxRecDepth 100000 in
theorem tyOk3 : TyOk Tryd.prog 3 ty3 := .of _ _ rfl rfl rfl rfl rfl rfl rfl rfl _ rfl rfl rfl
set_option maxRecDepth 100000 in
theorem tyOk4 : TyOk Tryd.prog 4 ty4 := .of _ _ rfl rfl rfl rfl rfl rfl rfl rfl _ rfl rfl rfl
set_option maxRecDepth 100000 in
theorem tyOk57 : TyOk Tryd.prog 57 ty57 := .of _ _ rfl rfl rfl rfl rfl rfl rfl rfl _ rfl rfl ⟨_, rfl, rfl⟩
set_option maxRecDepth 100000 in
theorem tyOk31 : TyOk Tryd.prog 31 ty31 := .of _ _ rfl rfl rfl rfl rfl rfl rfl rfl _ rfl rfl ⟨_, rfl, rfl⟩
set_option maxRecDepth 100000 in
theorem tyOk2 : TyOk Tryd.prog 2 ty2 := .of _ _ rfl rfl rfl rfl rfl rfl rfl rfl _ rfl rfl rfl
set_option maxRecDepth 100000 in
theorem tyOk5 : TyOk Tryd.prog 5 ty5 := .of _ _ rfl rfl rfl rfl rfl rfl rfl rfl _ rfl rfl rfl
set_option maxRecDepth 100000 in
theorem tyOk6 : TyOk Tryd.prog 6 ty6 := .of _ _ rfl rfl rfl rfl rfl rfl rfl rfl _ rfl rfl rfl
set_option maxRecDepth 100000 in
theorem tyOk7 : TyOk Tryd.prog 7 ty7 := .of _ _ rfl rfl rfl rfl rfl rfl rfl rfl _ rfl rfl ⟨_, rfl, rfl⟩
set_option maxRecDepth 100000 in
theorem tyOk8 : TyOk Tryd.prog 8 ty8 := .of _ _ rfl rfl rfl rfl rfl rfl rfl rfl _ rfl rfl ⟨_, rfl, rfl⟩
set_option maxRecDepth 100000 in
theorem tyOk9 : TyOk Tryd.prog 9 ty9 := .of _ _ rfl rfl rfl rfl rfl rfl rfl rfl _ rfl rfl rfl
set_option maxRecDepth 100000 in
theorem tyOk10 : TyOk Tryd.prog 10 ty10 := .of _ _ rfl rfl rfl rfl rfl rfl rfl rfl _ rfl rfl rfl
set_option maxRecDepth 100000 in
theorem tyOk11 : TyOk Tryd.prog 11 ty11 := .of _ _ rfl rfl rfl rfl rfl rfl rfl rfl _ rfl rfl rfl
set_option maxRecDepth 100000 in
theorem tyOk12 : TyOk Tryd.prog 12 ty12 := .of _ _ rfl rfl rfl rfl rfl rfl rfl rfl _ rfl rfl rfl
set_option maxRecDepth 100000 in
theorem tyOk13 : TyOk Tryd.prog 13 ty13 := .of _ _ rfl rfl rfl rfl rfl rfl rfl rfl _ rfl rfl ⟨_, rfl, rfl⟩
set_option maxRecDepth 100000 in
theorem tyOk14 : TyOk Tryd.prog 14 ty14 := .of _ _ rfl rfl rfl rfl rfl rfl rfl rfl _ rfl rfl ⟨_, rfl, rfl⟩
set_option maxRecDepth 100000 in
theorem tyOk20 : TyOk Tryd.prog 20 ty20 := .of _ _ rfl rfl rfl rfl rfl rfl rfl rfl _ rfl rfl ⟨_, rfl⟩
set_option maxRecDepth 100000 in
theorem tyOk21 : TyOk Tryd.prog 21 ty21 := .of _ _ rfl rfl rfl rfl rfl rfl rfl rfl _ rfl rfl rfl
set_option maxRecDepth 100000 in
theorem tyOk22 : TyOk Tryd.prog 22 ty22 := .of _ _ rfl rfl rfl rfl rfl rfl rfl rfl _ rfl rfl rfl
set_option maxRecDepth 100000 in
theorem tyOk23 : TyOk Tryd.prog 23 ty23 := .of _ _ rfl rfl rfl rfl rfl rfl rfl rfl _ rfl rfl ⟨_, rfl, rfl⟩
set_option maxRecDepth 100000 in
theorem tyOk24 : TyOk Tryd.prog 24 ty24 := .of _ _ rfl rfl rfl rfl rfl rfl rfl rfl _ rfl rfl ⟨_, rfl, rfl⟩
set_option maxRecDepth 100000 in
theorem tyOk25 : TyOk Tryd.prog 25 ty25 := .of _ _ rfl rfl rfl rfl rfl rfl rfl rfl _ rfl rfl ⟨_, rfl, rfl⟩
set_option maxRecDepth 100000 in
theorem tyOk26 : TyOk Tryd.prog 26 ty26 := .of _ _ rfl rfl rfl rfl rfl rfl rfl rfl _ rfl rfl ⟨_, rfl, rfl⟩
set_option maxRecDepth 100000 in
theorem tyOk29 : TyOk Tryd.prog 29 ty29 := .of _ _ rfl rfl rfl rfl rfl rfl rfl rfl _ rfl rfl rfl
set_option maxRecDepth 100000 in
theorem tyOk30 : TyOk Tryd.prog 30 ty30 := .of _ _ rfl rfl rfl rfl rfl rfl rfl rfl _ rfl rfl ⟨_, rfl, rfl⟩
set_option maxRecDepth 100000 in
theorem tyOk33 : TyOk Tryd.prog 33 ty33 := .of _ _ rfl rfl rfl rfl rfl rfl rfl rfl _ rfl rfl ⟨_, rfl, rfl⟩
set_option maxRecDepth 100000 in
theorem tyOk44 : TyOk Tryd.prog 44 ty44 := .of _ _ rfl rfl rfl rfl rfl rfl rfl rfl _ rfl rfl rfl
set_option maxRecDepth 100000 in
theorem tyOk55 : TyOk Tryd.prog 55 ty55 := .of _ _ rfl rfl rfl rfl rfl rfl rfl rfl _ rfl rfl rfl
set_option maxRecDepth 100000 in
theorem tyOk56 : TyOk Tryd.prog 56 ty56 := .of _ _ rfl rfl rfl rfl rfl rfl rfl rfl _ rfl rfl ⟨_, rfl, rfl⟩
set_option maxRecDepth 100000 in
theorem tyOk59 : TyOk Tryd.prog 59 ty59 := .of _ _ rfl rfl rfl rfl rfl rfl rfl rfl _ rfl rfl ⟨_, rfl, rfl⟩
set_option maxRecDepth 100000 in
theorem tyOk69 : TyOk Tryd.prog 69 ty69 := .of _ _ rfl rfl rfl rfl rfl rfl rfl rfl _ rfl rfl ⟨_, rfl⟩
set_option maxRecDepth 100000 in
theorem tyOk70 : TyOk Tryd.prog 70 ty70 := .of _ _ rfl rfl rfl rfl rfl rfl rfl rfl _ rfl rfl ⟨_, rfl⟩
set_option maxRecDepth 100000 in
theorem tyOk73 : TyOk Tryd.prog 73 ty73 := .of _ _ rfl rfl rfl rfl rfl rfl rfl rfl _ rfl rfl rfl
set_option maxRecDepth 100000 in
theorem tyOk80 : TyOk Tryd.prog 80 ty80 := .of _ _ rfl rfl rfl rfl rfl rfl rfl rfl _ rfl rfl rfl
set_option maxRecDepth 100000 in
theorem tyOk85 : TyOk Tryd.prog 85 ty85 := .of _ _ rfl rfl rfl rfl rfl rfl rfl rfl _ rfl rfl rfl
set_option maxRecDepth 100000 in
theorem tyOk93 : TyOk Tryd.prog 93 ty93 := .of _ _ rfl rfl rfl rfl rfl rfl rfl rfl _ rfl rfl rfl
set_option maxRecDepth 100000 in
theorem tyOk97 : TyOk Tryd.prog 97 ty97 := .of _ _ rfl rfl rfl rfl rfl rfl rfl rfl _ rfl rfl ⟨_, rfl, rfl⟩
set_option maxRecDepth 100000 in
theorem tyOk98 : TyOk Tryd.prog 98 ty98 := .of _ _ rfl rfl rfl rfl rfl rfl rfl rfl _ rfl rfl ⟨_, rfl, rfl⟩
set_option maxRecDepth 100000 in
theorem tyOk105 : TyOk Tryd.prog 105 ty105 := .of _ _ rfl rfl rfl rfl rfl rfl rfl rfl _ rfl rfl ⟨_, rfl, rfl⟩
set_option maxRecDepth 100000 in
theorem tyOk106 : TyOk Tryd.prog 106 ty106 := .of _ _ rfl rfl rfl rfl rfl rfl rfl rfl _ rfl rfl ⟨_, rfl, rfl⟩
set_option maxRecDepth 100000 in
theorem tyOk113 : TyOk Tryd.prog 113 ty113 := .of _ _ rfl rfl rfl rfl rfl rfl rfl rfl _ rfl rfl ⟨_, rfl, rfl⟩
set_option maxRecDepth 100000 in
theorem tyOk114 : TyOk Tryd.prog 114 ty114 := .of _ _ rfl rfl rfl rfl rfl rfl rfl rfl _ rfl rfl ⟨_, rfl, rfl⟩
set_option maxRecDepth 100000 in
theorem tyOk124 : TyOk Tryd.prog 124 ty124 := .of _ _ rfl rfl rfl rfl rfl rfl rfl rfl _ rfl rfl rfl
set_option maxRecDepth 100000 in
theorem tyOk125 : TyOk Tryd.prog 125 ty125 := .of _ _ rfl rfl rfl rfl rfl rfl rfl rfl _ rfl rfl rfl
set_option maxRecDepth 100000 in
theorem tyOk127 : TyOk Tryd.prog 127 ty127 := .of _ _ rfl rfl rfl rfl rfl rfl rfl rfl _ rfl rfl rfl
set_option maxRecDepth 100000 in
theorem tyOk128 : TyOk Tryd.prog 128 ty128 := .of _ _ rfl rfl rfl rfl rfl rfl rfl rfl _ rfl rfl rfl

set_option maxRecDepth 100000 in
theorem tauOk : TysOk Tryd.prog tau := lookTy_ok ⟨tyOk3, tyOk4, tyOk57, tyOk31, tyOk2, tyOk5, tyOk6, tyOk7, tyOk8, tyOk9, tyOk10, tyOk11, tyOk12, tyOk13, tyOk14, tyOk20, tyOk21, tyOk22, tyOk23, tyOk24, tyOk25, tyOk26, tyOk29, tyOk30, tyOk33, tyOk44, tyOk55, tyOk56, tyOk59, tyOk69, tyOk70, tyOk73, tyOk80, tyOk85, tyOk93, tyOk97, tyOk98, tyOk105, tyOk106, tyOk113, tyOk114, tyOk124, tyOk125, tyOk127, tyOk128, trivial⟩
theorem mixOk : Tryd.prog.follows .mixedOrders = true := rfl
end Vg
