/- The table of types of the program. No condition. -/
import Derived.Test.YtihedolalablgaaTy
import Derived.Test.YtihedolalablgaaProg
namespace Vg
open Go Go.Proofs

def ty3 : TyI := ⟨false, 1, 8, [.int .i64 0], [.int .i64 0], .int .i64⟩
def ty4 : TyI := ⟨false, 1, 1, [.bool false], [.bool false], .bool⟩
def ty64 : TyI := ⟨true, 4, 32, [.int .i64 0, .int .i64 0, .int .i64 0, .int .i64 0], [.int .i64 0, .int .i64 0, .int .i64 0, .int .i64 0], .flds [(0, 3), (1, 3), (2, 3), (3, 3)]⟩
def ty24 : TyI := ⟨true, 4, 48, [.int .i64 0, .int .i64 0, .int .i64 0, .slice none 0 0], [.int .i64 0, .int .i64 0, .int .i64 0, .seq .inss []], .flds [(0, 3), (1, 3), (2, 3), (3, 22)]⟩
def ty2 : TyI := ⟨false, 1, 8, [.int .i64 0], [.int .i64 0], .int .i64⟩
def ty5 : TyI := ⟨false, 1, 1, [.int .u8 0], [.int .u8 0], .int .u8⟩
def ty6 : TyI := ⟨false, 1, 1, [.int .u8 0], [.int .u8 0], .int .u8⟩
def ty7 : TyI := ⟨true, 4, 24, [.int .i64 0, .int .i64 0, .bool false, .int .u8 0], [.int .i64 0, .int .i64 0, .bool false, .int .u8 0], .flds [(0, 2), (1, 3), (2, 4), (3, 6)]⟩
def ty8 : TyI := ⟨true, 4, 24, [.int .i64 0, .int .i64 0, .bool false, .int .u8 0], [.int .i64 0, .int .i64 0, .bool false, .int .u8 0], .flds [(0, 2), (1, 3), (2, 4), (3, 6)]⟩
def ty9 : TyI := ⟨false, 1, 16, [.string ByteArray.empty], [.str ByteArray.empty], .str⟩
def ty10 : TyI := ⟨false, 1, 16, [.string ByteArray.empty], [.str ByteArray.empty], .str⟩
def ty11 : TyI := ⟨false, 1, 16, [.string ByteArray.empty], [.str ByteArray.empty], .str⟩
def ty12 : TyI := ⟨false, 1, 8, [.int .u64 0], [.int .u64 0], .int .u64⟩
def ty13 : TyI := ⟨true, 2, 24, [.string ByteArray.empty, .int .u64 0], [.str ByteArray.empty, .int .u64 0], .flds [(0, 9), (1, 12)]⟩
def ty14 : TyI := ⟨true, 2, 24, [.string ByteArray.empty, .int .u64 0], [.str ByteArray.empty, .int .u64 0], .flds [(0, 9), (1, 12)]⟩
def ty21 : TyI := ⟨false, 1, 4, [.int .i32 0], [.int .i32 0], .int .i32⟩
def ty22 : TyI := ⟨false, 1, 24, [.slice none 0 0], [.seq .inss []], .slice 64 .inss⟩
def ty23 : TyI := ⟨true, 4, 48, [.int .i64 0, .int .i64 0, .int .i64 0, .slice none 0 0], [.int .i64 0, .int .i64 0, .int .i64 0, .seq .inss []], .flds [(0, 3), (1, 3), (2, 3), (3, 22)]⟩
def ty25 : TyI := ⟨false, 1, 24, [.slice none 0 0], [.seq .intss []], .slice 44 .intss⟩
def ty26 : TyI := ⟨true, 6, 80, [.int .i64 0, .int .i64 0, .int .i64 0, .slice none 0 0, .int .i64 0, .slice none 0 0], [.int .i64 0, .int .i64 0, .int .i64 0, .seq .inss [], .int .i64 0, .seq .intss []], .flds [(0, 24), (4, 3), (5, 25)]⟩
def ty27 : TyI := ⟨true, 6, 80, [.int .i64 0, .int .i64 0, .int .i64 0, .slice none 0 0, .int .i64 0, .slice none 0 0], [.int .i64 0, .int .i64 0, .int .i64 0, .seq .inss [], .int .i64 0, .seq .intss []], .flds [(0, 24), (4, 3), (5, 25)]⟩
def ty32 : TyI := ⟨false, 1, 24, [.slice none 0 0], [.seq .inss []], .slice 85 .inss⟩
def ty33 : TyI := ⟨true, 4, 48, [.int .i64 0, .int .i64 0, .int .i64 0, .slice none 0 0], [.int .i64 0, .int .i64 0, .int .i64 0, .seq .inss []], .flds [(0, 3), (1, 3), (2, 3), (3, 32)]⟩
def ty34 : TyI := ⟨true, 4, 48, [.int .i64 0, .int .i64 0, .int .i64 0, .slice none 0 0], [.int .i64 0, .int .i64 0, .int .i64 0, .seq .inss []], .flds [(0, 3), (1, 3), (2, 3), (3, 32)]⟩
def ty35 : TyI := ⟨true, 4, 32, [.int .i64 0, .int .i64 0, .int .i64 0, .int .i64 0], [.int .i64 0, .int .i64 0, .int .i64 0, .int .i64 0], .flds [(0, 3), (1, 3), (2, 3), (3, 3)]⟩
def ty36 : TyI := ⟨true, 4, 32, [.int .i64 0, .int .i64 0, .int .i64 0, .int .i64 0], [.int .i64 0, .int .i64 0, .int .i64 0, .int .i64 0], .flds [(0, 3), (1, 3), (2, 3), (3, 3)]⟩
def ty40 : TyI := ⟨true, 4, 32, [.int .i64 0, .int .i64 0, .int .i64 0, .int .i64 0], [.int .i64 0, .int .i64 0, .int .i64 0, .int .i64 0], .flds [(0, 3), (1, 3), (2, 3), (3, 3)]⟩
def ty44 : TyI := ⟨false, 1, 24, [.slice none 0 0], [.seq .ints []], .slice 3 .ints⟩
def ty50 : TyI := ⟨true, 6, 80, [.int .i64 0, .int .i64 0, .int .i64 0, .slice none 0 0, .int .i64 0, .slice none 0 0], [.int .i64 0, .int .i64 0, .int .i64 0, .seq .inss [], .int .i64 0, .seq .intss []], .flds [(0, 34), (4, 3), (5, 25)]⟩
def ty51 : TyI := ⟨true, 6, 80, [.int .i64 0, .int .i64 0, .int .i64 0, .slice none 0 0, .int .i64 0, .slice none 0 0], [.int .i64 0, .int .i64 0, .int .i64 0, .seq .inss [], .int .i64 0, .seq .intss []], .flds [(0, 34), (4, 3), (5, 25)]⟩
def ty59 : TyI := ⟨false, 1, 24, [.slice none 0 0], [.seq .progs []], .slice 24 .progs⟩
def ty63 : TyI := ⟨true, 4, 32, [.int .i64 0, .int .i64 0, .int .i64 0, .int .i64 0], [.int .i64 0, .int .i64 0, .int .i64 0, .int .i64 0], .flds [(0, 3), (1, 3), (2, 3), (3, 3)]⟩
def ty85 : TyI := ⟨true, 4, 32, [.int .i64 0, .int .i64 0, .int .i64 0, .int .i64 0], [.int .i64 0, .int .i64 0, .int .i64 0, .int .i64 0], .flds [(0, 3), (1, 3), (2, 3), (3, 3)]⟩
def ty89 : TyI := ⟨false, 1, 8, [.int .u64 0], [.int .u64 0], .int .u64⟩
def ty99 : TyI := ⟨false, 1, 4, [.int .u32 0], [.int .u32 0], .int .u32⟩
def ty100 : TyI := ⟨false, 1, 1, [.int .u8 0], [.int .u8 0], .int .u8⟩
def ty101 : TyI := ⟨false, 1, 1, [.int .u8 0], [.int .u8 0], .int .u8⟩
def ty104 : TyI := ⟨false, 1, 4, [.int .i32 0], [.int .i32 0], .int .i32⟩
def ty105 : TyI := ⟨false, 1, 4, [.int .i32 0], [.int .i32 0], .int .i32⟩

def tauL : List (Nat × TyI) := [(3, ty3), (4, ty4), (64, ty64), (24, ty24), (2, ty2), (5, ty5), (6, ty6), (7, ty7), (8, ty8), (9, ty9), (10, ty10), (11, ty11), (12, ty12), (13, ty13), (14, ty14), (21, ty21), (22, ty22), (23, ty23), (25, ty25), (26, ty26), (27, ty27), (32, ty32), (33, ty33), (34, ty34), (35, ty35), (36, ty36), (40, ty40), (44, ty44), (50, ty50), (51, ty51), (59, ty59), (63, ty63), (85, ty85), (89, ty89), (99, ty99), (100, ty100), (101, ty101), (104, ty104), (105, ty105)]
def tau : Tys := lookTy tauL

theorem tyOk3 : TyOk Try.prog 3 ty3 := .of _ _ rfl rfl rfl rfl rfl rfl rfl rfl _ rfl rfl rfl
theorem tyOk4 : TyOk Try.prog 4 ty4 := .of _ _ rfl rfl rfl rfl rfl rfl rfl rfl _ rfl rfl rfl
theorem tyOk64 : TyOk Try.prog 64 ty64 := .of _ _ rfl rfl rfl rfl rfl rfl rfl rfl _ rfl rfl ⟨_, rfl, rfl⟩
theorem tyOk24 : TyOk Try.prog 24 ty24 := .of _ _ rfl rfl rfl rfl rfl rfl rfl rfl _ rfl rfl ⟨_, rfl, rfl⟩
theorem tyOk2 : TyOk Try.prog 2 ty2 := .of _ _ rfl rfl rfl rfl rfl rfl rfl rfl _ rfl rfl rfl
theorem tyOk5 : TyOk Try.prog 5 ty5 := .of _ _ rfl rfl rfl rfl rfl rfl rfl rfl _ rfl rfl rfl
theorem tyOk6 : TyOk Try.prog 6 ty6 := .of _ _ rfl rfl rfl rfl rfl rfl rfl rfl _ rfl rfl rfl
theorem tyOk7 : TyOk Try.prog 7 ty7 := .of _ _ rfl rfl rfl rfl rfl rfl rfl rfl _ rfl rfl ⟨_, rfl, rfl⟩
theorem tyOk8 : TyOk Try.prog 8 ty8 := .of _ _ rfl rfl rfl rfl rfl rfl rfl rfl _ rfl rfl ⟨_, rfl, rfl⟩
theorem tyOk9 : TyOk Try.prog 9 ty9 := .of _ _ rfl rfl rfl rfl rfl rfl rfl rfl _ rfl rfl rfl
theorem tyOk10 : TyOk Try.prog 10 ty10 := .of _ _ rfl rfl rfl rfl rfl rfl rfl rfl _ rfl rfl rfl
theorem tyOk11 : TyOk Try.prog 11 ty11 := .of _ _ rfl rfl rfl rfl rfl rfl rfl rfl _ rfl rfl rfl
theorem tyOk12 : TyOk Try.prog 12 ty12 := .of _ _ rfl rfl rfl rfl rfl rfl rfl rfl _ rfl rfl rfl
theorem tyOk13 : TyOk Try.prog 13 ty13 := .of _ _ rfl rfl rfl rfl rfl rfl rfl rfl _ rfl rfl ⟨_, rfl, rfl⟩
theorem tyOk14 : TyOk Try.prog 14 ty14 := .of _ _ rfl rfl rfl rfl rfl rfl rfl rfl _ rfl rfl ⟨_, rfl, rfl⟩
theorem tyOk21 : TyOk Try.prog 21 ty21 := .of _ _ rfl rfl rfl rfl rfl rfl rfl rfl _ rfl rfl rfl
theorem tyOk22 : TyOk Try.prog 22 ty22 := .of _ _ rfl rfl rfl rfl rfl rfl rfl rfl _ rfl rfl rfl
theorem tyOk23 : TyOk Try.prog 23 ty23 := .of _ _ rfl rfl rfl rfl rfl rfl rfl rfl _ rfl rfl ⟨_, rfl, rfl⟩
theorem tyOk25 : TyOk Try.prog 25 ty25 := .of _ _ rfl rfl rfl rfl rfl rfl rfl rfl _ rfl rfl rfl
theorem tyOk26 : TyOk Try.prog 26 ty26 := .of _ _ rfl rfl rfl rfl rfl rfl rfl rfl _ rfl rfl ⟨_, rfl, rfl⟩
theorem tyOk27 : TyOk Try.prog 27 ty27 := .of _ _ rfl rfl rfl rfl rfl rfl rfl rfl _ rfl rfl ⟨_, rfl, rfl⟩
theorem tyOk32 : TyOk Try.prog 32 ty32 := .of _ _ rfl rfl rfl rfl rfl rfl rfl rfl _ rfl rfl rfl
theorem tyOk33 : TyOk Try.prog 33 ty33 := .of _ _ rfl rfl rfl rfl rfl rfl rfl rfl _ rfl rfl ⟨_, rfl, rfl⟩
theorem tyOk34 : TyOk Try.prog 34 ty34 := .of _ _ rfl rfl rfl rfl rfl rfl rfl rfl _ rfl rfl ⟨_, rfl, rfl⟩
theorem tyOk35 : TyOk Try.prog 35 ty35 := .of _ _ rfl rfl rfl rfl rfl rfl rfl rfl _ rfl rfl ⟨_, rfl, rfl⟩
theorem tyOk36 : TyOk Try.prog 36 ty36 := .of _ _ rfl rfl rfl rfl rfl rfl rfl rfl _ rfl rfl ⟨_, rfl, rfl⟩
theorem tyOk40 : TyOk Try.prog 40 ty40 := .of _ _ rfl rfl rfl rfl rfl rfl rfl rfl _ rfl rfl ⟨_, rfl, rfl⟩
theorem tyOk44 : TyOk Try.prog 44 ty44 := .of _ _ rfl rfl rfl rfl rfl rfl rfl rfl _ rfl rfl rfl
theorem tyOk50 : TyOk Try.prog 50 ty50 := .of _ _ rfl rfl rfl rfl rfl rfl rfl rfl _ rfl rfl ⟨_, rfl, rfl⟩
theorem tyOk51 : TyOk Try.prog 51 ty51 := .of _ _ rfl rfl rfl rfl rfl rfl rfl rfl _ rfl rfl ⟨_, rfl, rfl⟩
theorem tyOk59 : TyOk Try.prog 59 ty59 := .of _ _ rfl rfl rfl rfl rfl rfl rfl rfl _ rfl rfl rfl
theorem tyOk63 : TyOk Try.prog 63 ty63 := .of _ _ rfl rfl rfl rfl rfl rfl rfl rfl _ rfl rfl ⟨_, rfl, rfl⟩
theorem tyOk85 : TyOk Try.prog 85 ty85 := .of _ _ rfl rfl rfl rfl rfl rfl rfl rfl _ rfl rfl ⟨_, rfl, rfl⟩
theorem tyOk89 : TyOk Try.prog 89 ty89 := .of _ _ rfl rfl rfl rfl rfl rfl rfl rfl _ rfl rfl rfl
theorem tyOk99 : TyOk Try.prog 99 ty99 := .of _ _ rfl rfl rfl rfl rfl rfl rfl rfl _ rfl rfl rfl
theorem tyOk100 : TyOk Try.prog 100 ty100 := .of _ _ rfl rfl rfl rfl rfl rfl rfl rfl _ rfl rfl rfl
theorem tyOk101 : TyOk Try.prog 101 ty101 := .of _ _ rfl rfl rfl rfl rfl rfl rfl rfl _ rfl rfl rfl
theorem tyOk104 : TyOk Try.prog 104 ty104 := .of _ _ rfl rfl rfl rfl rfl rfl rfl rfl _ rfl rfl rfl
theorem tyOk105 : TyOk Try.prog 105 ty105 := .of _ _ rfl rfl rfl rfl rfl rfl rfl rfl _ rfl rfl rfl

theorem tauOk : TysOk Try.prog tau := lookTy_ok ⟨tyOk3, tyOk4, tyOk64, tyOk24, tyOk2, tyOk5, tyOk6, tyOk7, tyOk8, tyOk9, tyOk10, tyOk11, tyOk12, tyOk13, tyOk14, tyOk21, tyOk22, tyOk23, tyOk25, tyOk26, tyOk27, tyOk32, tyOk33, tyOk34, tyOk35, tyOk36, tyOk40, tyOk44, tyOk50, tyOk51, tyOk59, tyOk63, tyOk85, tyOk89, tyOk99, tyOk100, tyOk101, tyOk104, tyOk105, trivial⟩
theorem mixOk : Try.prog.follows .mixedOrders = true := rfl
end Vg
