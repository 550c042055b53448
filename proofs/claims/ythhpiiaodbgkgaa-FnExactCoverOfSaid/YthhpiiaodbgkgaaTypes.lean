/- The table of types of the program. No condition. -/
import Derived.Test.YthhpiiaodbgkgaaTy
import Derived.Test.YthhpiiaodbgkgaaProg
namespace Vg
open Go Go.Proofs

def ty3 : TyI := ⟨false, 1, 8, [.int .i64 0], [.int .i64 0], .int .i64⟩
def ty4 : TyI := ⟨false, 1, 1, [.bool false], [.bool false], .bool⟩
def ty52 : TyI := ⟨true, 4, 32, [.int .i64 0, .int .i64 0, .int .i64 0, .int .i64 0], [.int .i64 0, .int .i64 0, .int .i64 0, .int .i64 0], .flds [(0, 3), (1, 3), (2, 3), (3, 3)]⟩
def ty30 : TyI := ⟨true, 4, 48, [.int .i64 0, .int .i64 0, .int .i64 0, .slice none 0 0], [.int .i64 0, .int .i64 0, .int .i64 0, .seq .inss []], .flds [(0, 3), (1, 3), (2, 3), (3, 28)]⟩
def ty2 : TyI := ⟨false, 1, 8, [.int .i64 0], [.int .i64 0], .int .i64⟩
def ty5 : TyI := ⟨false, 1, 1, [.int .u8 0], [.int .u8 0], .int .u8⟩
def ty6 : TyI := ⟨false, 1, 1, [.int .u8 0], [.int .u8 0], .int .u8⟩
def ty7 : TyI := ⟨true, 4, 24, [.int .i64 0, .int .i64 0, .bool false, .int .u8 0], [.int .i64 0, .int .i64 0, .bool false, .int .u8 0], .flds [(0, 2), (1, 3), (2, 4), (3, 6)]⟩
def ty8 : TyI := ⟨true, 4, 24, [.int .i64 0, .int .i64 0, .bool false, .int .u8 0], [.int .i64 0, .int .i64 0, .bool false, .int .u8 0], .flds [(0, 2), (1, 3), (2, 4), (3, 6)]⟩
def ty9 : TyI := ⟨false, 1, 16, [.string ByteArray.empty], [.str ByteArray.empty], .str⟩
def ty10 : TyI := ⟨false, 1, 16, [.string ByteArray.empty], [.str ByteArray.empty], .str⟩
def ty11 : TyI := ⟨false, 1, 16, [.string ByteArray.empty], [.str ByteArray.empty], .str⟩
def ty12 : TyI := ⟨false, 1, 8, [.int .u64 0], [.int .u64 0], .int .u64⟩
def ty13 : TyI := ⟨true, 2, 24, [.string ByteArray.empty, .int .u64 0], [.str ByteArray.empty, .int .u64 0], .flds [(0, 9), (1, 12)]⟩
def ty14 : TyI := ⟨true, 2, 24, [.string ByteArray.empty, .int .u64 0], [.str ByteArray.empty, .int .u64 0], .flds [(0, 9), (1, 12)]⟩
def ty21 : TyI := ⟨false, 1, 4, [.int .i32 0], [.int .i32 0], .int .i32⟩
def ty22 : TyI := ⟨false, 1, 24, [.slice none 0 0], [.seq .inss []], .slice 115 .inss⟩
def ty23 : TyI := ⟨true, 4, 48, [.int .i64 0, .int .i64 0, .int .i64 0, .slice none 0 0], [.int .i64 0, .int .i64 0, .int .i64 0, .seq .inss []], .flds [(0, 3), (1, 3), (2, 3), (3, 22)]⟩
def ty24 : TyI := ⟨true, 4, 48, [.int .i64 0, .int .i64 0, .int .i64 0, .slice none 0 0], [.int .i64 0, .int .i64 0, .int .i64 0, .seq .inss []], .flds [(0, 3), (1, 3), (2, 3), (3, 22)]⟩
def ty25 : TyI := ⟨false, 1, 24, [.slice none 0 0], [.seq .ints []], .slice 3 .ints⟩
def ty28 : TyI := ⟨false, 1, 24, [.slice none 0 0], [.seq .inss []], .slice 52 .inss⟩
def ty29 : TyI := ⟨true, 4, 48, [.int .i64 0, .int .i64 0, .int .i64 0, .slice none 0 0], [.int .i64 0, .int .i64 0, .int .i64 0, .seq .inss []], .flds [(0, 3), (1, 3), (2, 3), (3, 28)]⟩
def ty38 : TyI := ⟨false, 1, 24, [.slice none 0 0], [.seq .intss []], .slice 25 .intss⟩
def ty44 : TyI := ⟨false, 1, 24, [.slice none 0 0], [.seq .bytes []], .slice 5 .bytes⟩
def ty46 : TyI := ⟨false, 1, 24, [.slice none 0 0], [.seq .progs []], .slice 30 .progs⟩
def ty51 : TyI := ⟨true, 4, 32, [.int .i64 0, .int .i64 0, .int .i64 0, .int .i64 0], [.int .i64 0, .int .i64 0, .int .i64 0, .int .i64 0], .flds [(0, 3), (1, 3), (2, 3), (3, 3)]⟩
def ty55 : TyI := ⟨true, 8, 128, [.int .i64 0, .slice none 0 0, .slice none 0 0, .slice none 0 0, .int .i64 0, .slice none 0 0, .int .i64 0, .int .i64 0], [.int .i64 0, .seq .ints [], .seq .ints [], .seq .ints [], .int .i64 0, .seq .ints [], .int .i64 0, .int .i64 0], .flds [(0, 3), (1, 25), (2, 25), (3, 25), (4, 3), (5, 25), (6, 3), (7, 3)]⟩
def ty56 : TyI := ⟨true, 8, 128, [.int .i64 0, .slice none 0 0, .slice none 0 0, .slice none 0 0, .int .i64 0, .slice none 0 0, .int .i64 0, .int .i64 0], [.int .i64 0, .seq .ints [], .seq .ints [], .seq .ints [], .int .i64 0, .seq .ints [], .int .i64 0, .int .i64 0], .flds [(0, 3), (1, 25), (2, 25), (3, 25), (4, 3), (5, 25), (6, 3), (7, 3)]⟩
def ty63 : TyI := ⟨false, 1, 24, [.slice none 0 0], [.seq .states []], .slice 56 .states⟩
def ty65 : TyI := ⟨true, 4, 32, [.int .i64 0, .int .i64 0, .int .i64 0, .int .i64 0], [.int .i64 0, .int .i64 0, .int .i64 0, .int .i64 0], .flds [(0, 3), (1, 3), (2, 3), (3, 3)]⟩
def ty66 : TyI := ⟨true, 4, 32, [.int .i64 0, .int .i64 0, .int .i64 0, .int .i64 0], [.int .i64 0, .int .i64 0, .int .i64 0, .int .i64 0], .flds [(0, 3), (1, 3), (2, 3), (3, 3)]⟩
def ty68 : TyI := ⟨false, 1, 24, [.slice none 0 0], [.seq .facts []], .slice 66 .facts⟩
def ty77 : TyI := ⟨false, 1, 8, [.int .u64 0], [.int .u64 0], .int .u64⟩
def ty111 : TyI := ⟨false, 1, 24, [.slice none 0 0], [.seq .bools []], .slice 4 .bools⟩
def ty115 : TyI := ⟨true, 4, 32, [.int .i64 0, .int .i64 0, .int .i64 0, .int .i64 0], [.int .i64 0, .int .i64 0, .int .i64 0, .int .i64 0], .flds [(0, 3), (1, 3), (2, 3), (3, 3)]⟩
def ty119 : TyI := ⟨true, 3, 40, [.slice none 0 0, .int .i64 0, .int .i64 0], [.seq .bytes [], .int .i64 0, .int .i64 0], .flds [(0, 44), (1, 3), (2, 3)]⟩
def ty120 : TyI := ⟨true, 3, 40, [.slice none 0 0, .int .i64 0, .int .i64 0], [.seq .bytes [], .int .i64 0, .int .i64 0], .flds [(0, 44), (1, 3), (2, 3)]⟩
def ty137 : TyI := ⟨false, 1, 8, [.int .i64 0], [.int .i64 0], .int .i64⟩
def ty144 : TyI := ⟨false, 1, 4, [.int .u32 0], [.int .u32 0], .int .u32⟩
def ty146 : TyI := ⟨false, 1, 8, [.int .u64 0], [.int .u64 0], .int .u64⟩
def ty147 : TyI := ⟨false, 1, 8, [.int .u64 0], [.int .u64 0], .int .u64⟩
def ty162 : TyI := ⟨false, 1, 1, [.int .u8 0], [.int .u8 0], .int .u8⟩
def ty163 : TyI := ⟨false, 1, 1, [.int .u8 0], [.int .u8 0], .int .u8⟩
def ty166 : TyI := ⟨false, 1, 4, [.int .i32 0], [.int .i32 0], .int .i32⟩
def ty167 : TyI := ⟨false, 1, 4, [.int .i32 0], [.int .i32 0], .int .i32⟩

def tauL : List (Nat × TyI) := [(3, ty3), (4, ty4), (52, ty52), (30, ty30), (2, ty2), (5, ty5), (6, ty6), (7, ty7), (8, ty8), (9, ty9), (10, ty10), (11, ty11), (12, ty12), (13, ty13), (14, ty14), (21, ty21), (22, ty22), (23, ty23), (24, ty24), (25, ty25), (28, ty28), (29, ty29), (38, ty38), (44, ty44), (46, ty46), (51, ty51), (55, ty55), (56, ty56), (63, ty63), (65, ty65), (66, ty66), (68, ty68), (77, ty77), (111, ty111), (115, ty115), (119, ty119), (120, ty120), (137, ty137), (144, ty144), (146, ty146), (147, ty147), (162, ty162), (163, ty163), (166, ty166), (167, ty167)]
def tau : Tys := lookTy tauL

set_option maxRecDepth 100000 in
theorem tyOk3 : TyOk Try.prog 3 ty3 := .of _ _ rfl rfl rfl rfl rfl rfl rfl rfl _ rfl rfl rfl
set_option maxRecDepth 100000 in
theorem tyOk4 : TyOk Try.prog 4 ty4 := .of _ _ rfl rfl rfl rfl rfl rfl rfl rfl _ rfl rfl rfl
set_option maxRecDepth 100000 in
theorem tyOk52 : TyOk Try.prog 52 ty52 := .of _ _ rfl rfl rfl rfl rfl rfl rfl rfl _ rfl rfl ⟨_, rfl, rfl⟩
set_option maxRecDepth 100000 in
theorem tyOk30 : TyOk Try.prog 30 ty30 := .of _ _ rfl rfl rfl rfl rfl rfl rfl rfl _ rfl rfl ⟨_, rfl, rfl⟩
set_option maxRecDepth 100000 in
theorem tyOk2 : TyOk Try.prog 2 ty2 := .of _ _ rfl rfl rfl rfl rfl rfl rfl rfl _ rfl rfl rfl
set_option maxRecDepth 100000 in
theorem tyOk5 : TyOk Try.prog 5 ty5 := .of _ _ rfl rfl rfl rfl rfl rfl rfl rfl _ rfl rfl rfl
set_option maxRecDepth 100000 in
theorem tyOk6 : TyOk Try.prog 6 ty6 := .of _ _ rfl rfl rfl rfl rfl rfl rfl rfl _ rfl rfl rfl
set_option maxRecDepth 100000 in
theorem tyOk7 : TyOk Try.prog 7 ty7 := .of _ _ rfl rfl rfl rfl rfl rfl rfl rfl _ rfl rfl ⟨_, rfl, rfl⟩
set_option maxRecDepth 100000 in
theorem tyOk8 : TyOk Try.prog 8 ty8 := .of _ _ rfl rfl rfl rfl rfl rfl rfl rfl _ rfl rfl ⟨_, rfl, rfl⟩
set_option maxRecDepth 100000 in
theorem tyOk9 : TyOk Try.prog 9 ty9 := .of _ _ rfl rfl rfl rfl rfl rfl rfl rfl _ rfl rfl rfl
set_option maxRecDepth 100000 in
theorem tyOk10 : TyOk Try.prog 10 ty10 := .of _ _ rfl rfl rfl rfl rfl rfl rfl rfl _ rfl rfl rfl
set_option maxRecDepth 100000 in
theorem tyOk11 : TyOk Try.prog 11 ty11 := .of _ _ rfl rfl rfl rfl rfl rfl rfl rfl _ rfl rfl rfl
set_option maxRecDepth 100000 in
theorem tyOk12 : TyOk Try.prog 12 ty12 := .of _ _ rfl rfl rfl rfl rfl rfl rfl rfl _ rfl rfl rfl
set_option maxRecDepth 100000 in
theorem tyOk13 : TyOk Try.prog 13 ty13 := .of _ _ rfl rfl rfl rfl rfl rfl rfl rfl _ rfl rfl ⟨_, rfl, rfl⟩
set_option maxRecDepth 100000 in
theorem tyOk14 : TyOk Try.prog 14 ty14 := .of _ _ rfl rfl rfl rfl rfl rfl rfl rfl _ rfl rfl ⟨_, rfl, rfl⟩
set_option maxRecDepth 100000 in
theorem tyOk21 : TyOk Try.prog 21 ty21 := .of _ _ rfl rfl rfl rfl rfl rfl rfl rfl _ rfl rfl rfl
set_option maxRecDepth 100000 in
theorem tyOk22 : TyOk Try.prog 22 ty22 := .of _ _ rfl rfl rfl rfl rfl rfl rfl rfl _ rfl rfl rfl
set_option maxRecDepth 100000 in
theorem tyOk23 : TyOk Try.prog 23 ty23 := .of _ _ rfl rfl rfl rfl rfl rfl rfl rfl _ rfl rfl ⟨_, rfl, rfl⟩
set_option maxRecDepth 100000 in
theorem tyOk24 : TyOk Try.prog 24 ty24 := .of _ _ rfl rfl rfl rfl rfl rfl rfl rfl _ rfl rfl ⟨_, rfl, rfl⟩
set_option maxRecDepth 100000 in
theorem tyOk25 : TyOk Try.prog 25 ty25 := .of _ _ rfl rfl rfl rfl rfl rfl rfl rfl _ rfl rfl rfl
set_option maxRecDepth 100000 in
theorem tyOk28 : TyOk Try.prog 28 ty28 := .of _ _ rfl rfl rfl rfl rfl rfl rfl rfl _ rfl rfl rfl
set_option maxRecDepth 100000 in
theorem tyOk29 : TyOk Try.prog 29 ty29 := .of _ _ rfl rfl rfl rfl rfl rfl rfl rfl _ rfl rfl ⟨_, rfl, rfl⟩
set_option maxRecDepth 100000 in
theorem tyOk38 : TyOk Try.prog 38 ty38 := .of _ _ rfl rfl rfl rfl rfl rfl rfl rfl _ rfl rfl rfl
set_option maxRecDepth 100000 in
theorem tyOk44 : TyOk Try.prog 44 ty44 := .of _ _ rfl rfl rfl rfl rfl rfl rfl rfl _ rfl rfl rfl
set_option maxRecDepth 100000 in
theorem tyOk46 : TyOk Try.prog 46 ty46 := .of _ _ rfl rfl rfl rfl rfl rfl rfl rfl _ rfl rfl rfl
set_option maxRecDepth 100000 in
theorem tyOk51 : TyOk Try.prog 51 ty51 := .of _ _ rfl rfl rfl rfl rfl rfl rfl rfl _ rfl rfl ⟨_, rfl, rfl⟩
set_option maxRecDepth 100000 in
theorem tyOk55 : TyOk Try.prog 55 ty55 := .of _ _ rfl rfl rfl rfl rfl rfl rfl rfl _ rfl rfl ⟨_, rfl, rfl⟩
set_option maxRecDepth 100000 in
theorem tyOk56 : TyOk Try.prog 56 ty56 := .of _ _ rfl rfl rfl rfl rfl rfl rfl rfl _ rfl rfl ⟨_, rfl, rfl⟩
set_option maxRecDepth 100000 in
theorem tyOk63 : TyOk Try.prog 63 ty63 := .of _ _ rfl rfl rfl rfl rfl rfl rfl rfl _ rfl rfl rfl
set_option maxRecDepth 100000 in
theorem tyOk65 : TyOk Try.prog 65 ty65 := .of _ _ rfl rfl rfl rfl rfl rfl rfl rfl _ rfl rfl ⟨_, rfl, rfl⟩
set_option maxRecDepth 100000 in
theorem tyOk66 : TyOk Try.prog 66 ty66 := .of _ _ rfl rfl rfl rfl rfl rfl rfl rfl _ rfl rfl ⟨_, rfl, rfl⟩
set_option maxRecDepth 100000 in
theorem tyOk68 : TyOk Try.prog 68 ty68 := .of _ _ rfl rfl rfl rfl rfl rfl rfl rfl _ rfl rfl rfl
set_option maxRecDepth 100000 in
theorem tyOk77 : TyOk Try.prog 77 ty77 := .of _ _ rfl rfl rfl rfl rfl rfl rfl rfl _ rfl rfl rfl
set_option maxRecDepth 100000 in
theorem tyOk111 : TyOk Try.prog 111 ty111 := .of _ _ rfl rfl rfl rfl rfl rfl rfl rfl _ rfl rfl rfl
set_option maxRecDepth 100000 in
theorem tyOk115 : TyOk Try.prog 115 ty115 := .of _ _ rfl rfl rfl rfl rfl rfl rfl rfl _ rfl rfl ⟨_, rfl, rfl⟩
set_option maxRecDepth 100000 in
theorem tyOk119 : TyOk Try.prog 119 ty119 := .of _ _ rfl rfl rfl rfl rfl rfl rfl rfl _ rfl rfl ⟨_, rfl, rfl⟩
set_option maxRecDepth 100000 in
theorem tyOk120 : TyOk Try.prog 120 ty120 := .of _ _ rfl rfl rfl rfl rfl rfl rfl rfl _ rfl rfl ⟨_, rfl, rfl⟩
set_option maxRecDepth 100000 in
theorem tyOk137 : TyOk Try.prog 137 ty137 := .of _ _ rfl rfl rfl rfl rfl rfl rfl rfl _ rfl rfl rfl
set_option maxRecDepth 100000 in
theorem tyOk144 : TyOk Try.prog 144 ty144 := .of _ _ rfl rfl rfl rfl rfl rfl rfl rfl _ rfl rfl rfl
set_option maxRecDepth 100000 in
theorem tyOk146 : TyOk Try.prog 146 ty146 := .of _ _ rfl rfl rfl rfl rfl rfl rfl rfl _ rfl rfl rfl
set_option maxRecDepth 100000 in
theorem tyOk147 : TyOk Try.prog 147 ty147 := .of _ _ rfl rfl rfl rfl rfl rfl rfl rfl _ rfl rfl rfl
set_option maxRecDepth 100000 in
theorem tyOk162 : TyOk Try.prog 162 ty162 := .of _ _ rfl rfl rfl rfl rfl rfl rfl rfl _ rfl rfl rfl
set_option maxRecDepth 100000 in
theorem tyOk163 : TyOk Try.prog 163 ty163 := .of _ _ rfl rfl rfl rfl rfl rfl rfl rfl _ rfl rfl rfl
set_option maxRecDepth 100000 in
theorem tyOk166 : TyOk Try.prog 166 ty166 := .of _ _ rfl rfl rfl rfl rfl rfl rfl rfl _ rfl rfl rfl
set_option maxRecDepth 100000 in
theorem tyOk167 : TyOk Try.prog 167 ty167 := .of _ _ rfl rfl rfl rfl rfl rfl rfl rfl _ rfl rfl rfl

set_option maxRecDepth 100000 in
theorem tauOk : TysOk Try.prog tau := lookTy_ok ⟨tyOk3, tyOk4, tyOk52, tyOk30, tyOk2, tyOk5, tyOk6, tyOk7, tyOk8, tyOk9, tyOk10, tyOk11, tyOk12, tyOk13, tyOk14, tyOk21, tyOk22, tyOk23, tyOk24, tyOk25, tyOk28, tyOk29, tyOk38, tyOk44, tyOk46, tyOk51, tyOk55, tyOk56, tyOk63, tyOk65, tyOk66, tyOk68, tyOk77, tyOk111, tyOk115, tyOk119, tyOk120, tyOk137, tyOk144, tyOk146, tyOk147, tyOk162, tyOk163, tyOk166, tyOk167, trivial⟩
theorem mixOk : Try.prog.follows .mixedOrders = true := rfl
end Vg
