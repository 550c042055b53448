/- The table of types of the program. No condition. -/
import Derived.Test.YtjmgoefijnnooaaTy
import Derived.Test.YtjmgoefijnnooaaProg
namespace Vg
open Go Go.Proofs

def ty3 : TyI := ⟨false, 1, 8, [.int .i64 0], [.int .i64 0], .int .i64⟩
def ty4 : TyI := ⟨false, 1, 1, [.bool false], [.bool false], .bool⟩
def ty69 : TyI := ⟨true, 4, 32, [.int .i64 0, .int .i64 0, .int .i64 0, .int .i64 0], [.int .i64 0, .int .i64 0, .int .i64 0, .int .i64 0], .flds [(0, 3), (1, 3), (2, 3), (3, 3)]⟩
def ty32 : TyI := ⟨true, 4, 48, [.int .i64 0, .int .i64 0, .int .i64 0, .slice none 0 0], [.int .i64 0, .int .i64 0, .int .i64 0, .seq .inss []], .flds [(0, 3), (1, 3), (2, 3), (3, 30)]⟩
def ty2 : TyI := ⟨false, 1, 8, [.int .i64 0], [.int .i64 0], .int .i64⟩
def ty5 : TyI := ⟨false, 1, 1, [.int .u8 0], [.int .u8 0], .int .u8⟩
def ty6 : TyI := ⟨false, 1, 1, [.int .u8 0], [.int .u8 0], .int .u8⟩
def ty7 : TyI := ⟨true, 4, 24, [.int .i64 0, .int .i64 0, .bool false, .int .u8 0], [.int .i64 0, .int .i64 0, .bool false, .int .u8 0], .flds [(0, 2), (1, 3), (2, 4), (3, 6)]⟩
def ty8 : TyI := ⟨true, 4, 24, [.int .i64 0, .int .i64 0, .bool false, .int .u8 0], [.int .i64 0, .int .i64 0, .bool false, .int .u8 0], .flds [(0, 2), (1, 3), (2, 4), (3, 6)]⟩
def ty9 : TyI := ⟨false, 1, 16, [.string ByteArray.empty], [.str ByteArray.empty], .str⟩
def ty10 : TyI := ⟨false, 1, 16, [.string ByteArray.empty], [.str ByteArray.empty], .str⟩
def ty11 : TyI := ⟨false, 1, 16, [.string ByteArray.empty], [.str ByteArray.empty], .str⟩
def ty12 : TyI := ⟨false, 1, 8, [.int .u64 0], [.int .u64 0], .int .u64⟩
def ty13 : TyI := ⟨true, 2, 24, [.string ByteArray.empty, .int .u64 0], [.str ByteArray.empty, .int .u64 0], .flds [(0, 9), (1, 12)]⟩
def ty14 : TyI := ⟨true, 2, 24, [.string ByteArray.empty, .int .u64 0], [.str ByteArray.empty, .int .u64 0], .flds [(0, 9), (1, 12)]⟩
def ty21 : TyI := ⟨false, 1, 4, [.int .i32 0], [.int .i32 0], .int .i32⟩
def ty22 : TyI := ⟨false, 1, 24, [.slice none 0 0], [.seq .inss []], .slice 131 .inss⟩
def ty23 : TyI := ⟨true, 4, 48, [.int .i64 0, .int .i64 0, .int .i64 0, .slice none 0 0], [.int .i64 0, .int .i64 0, .int .i64 0, .seq .inss []], .flds [(0, 3), (1, 3), (2, 3), (3, 22)]⟩
def ty24 : TyI := ⟨true, 4, 48, [.int .i64 0, .int .i64 0, .int .i64 0, .slice none 0 0], [.int .i64 0, .int .i64 0, .int .i64 0, .seq .inss []], .flds [(0, 3), (1, 3), (2, 3), (3, 22)]⟩
def ty25 : TyI := ⟨false, 1, 24, [.slice none 0 0], [.seq .intss []], .slice 38 .intss⟩
def ty30 : TyI := ⟨false, 1, 24, [.slice none 0 0], [.seq .inss []], .slice 69 .inss⟩
def ty31 : TyI := ⟨true, 4, 48, [.int .i64 0, .int .i64 0, .int .i64 0, .slice none 0 0], [.int .i64 0, .int .i64 0, .int .i64 0, .seq .inss []], .flds [(0, 3), (1, 3), (2, 3), (3, 30)]⟩
def ty38 : TyI := ⟨false, 1, 24, [.slice none 0 0], [.seq .ints []], .slice 3 .ints⟩
def ty44 : TyI := ⟨false, 1, 24, [.slice none 0 0], [.seq .states []], .slice 72 .states⟩
def ty50 : TyI := ⟨false, 1, 24, [.slice none 0 0], [.seq .states []], .slice 105 .states⟩
def ty52 : TyI := ⟨false, 1, 24, [.slice none 0 0], [.seq .facts []], .slice 78 .facts⟩
def ty63 : TyI := ⟨false, 1, 24, [.slice none 0 0], [.seq .progs []], .slice 32 .progs⟩
def ty68 : TyI := ⟨true, 4, 32, [.int .i64 0, .int .i64 0, .int .i64 0, .int .i64 0], [.int .i64 0, .int .i64 0, .int .i64 0, .int .i64 0], .flds [(0, 3), (1, 3), (2, 3), (3, 3)]⟩
def ty71 : TyI := ⟨true, 8, 128, [.int .i64 0, .slice none 0 0, .slice none 0 0, .slice none 0 0, .int .i64 0, .slice none 0 0, .int .i64 0, .int .i64 0], [.int .i64 0, .seq .ints [], .seq .ints [], .seq .ints [], .int .i64 0, .seq .ints [], .int .i64 0, .int .i64 0], .flds [(0, 3), (1, 38), (2, 38), (3, 38), (4, 3), (5, 38), (6, 3), (7, 3)]⟩
def ty72 : TyI := ⟨true, 8, 128, [.int .i64 0, .slice none 0 0, .slice none 0 0, .slice none 0 0, .int .i64 0, .slice none 0 0, .int .i64 0, .int .i64 0], [.int .i64 0, .seq .ints [], .seq .ints [], .seq .ints [], .int .i64 0, .seq .ints [], .int .i64 0, .int .i64 0], .flds [(0, 3), (1, 38), (2, 38), (3, 38), (4, 3), (5, 38), (6, 3), (7, 3)]⟩
def ty77 : TyI := ⟨true, 4, 32, [.int .i64 0, .int .i64 0, .int .i64 0, .int .i64 0], [.int .i64 0, .int .i64 0, .int .i64 0, .int .i64 0], .flds [(0, 3), (1, 3), (2, 3), (3, 3)]⟩
def ty78 : TyI := ⟨true, 4, 32, [.int .i64 0, .int .i64 0, .int .i64 0, .int .i64 0], [.int .i64 0, .int .i64 0, .int .i64 0, .int .i64 0], .flds [(0, 3), (1, 3), (2, 3), (3, 3)]⟩
def ty90 : TyI := ⟨false, 1, 8, [.int .u64 0], [.int .u64 0], .int .u64⟩
def ty105 : TyI := ⟨true, 8, 128, [.int .i64 0, .slice none 0 0, .slice none 0 0, .slice none 0 0, .int .i64 0, .slice none 0 0, .int .i64 0, .int .i64 0], [.int .i64 0, .seq .ints [], .seq .ints [], .seq .ints [], .int .i64 0, .seq .ints [], .int .i64 0, .int .i64 0], .flds [(0, 3), (1, 38), (2, 38), (3, 38), (4, 3), (5, 38), (6, 3), (7, 3)]⟩
def ty128 : TyI := ⟨false, 1, 24, [.slice none 0 0], [.seq .bools []], .slice 4 .bools⟩
def ty131 : TyI := ⟨true, 4, 32, [.int .i64 0, .int .i64 0, .int .i64 0, .int .i64 0], [.int .i64 0, .int .i64 0, .int .i64 0, .int .i64 0], .flds [(0, 3), (1, 3), (2, 3), (3, 3)]⟩
def ty154 : TyI := ⟨false, 1, 8, [.int .i64 0], [.int .i64 0], .int .i64⟩
def ty161 : TyI := ⟨false, 1, 4, [.int .u32 0], [.int .u32 0], .int .u32⟩
def ty163 : TyI := ⟨false, 1, 8, [.int .u64 0], [.int .u64 0], .int .u64⟩
def ty164 : TyI := ⟨false, 1, 8, [.int .u64 0], [.int .u64 0], .int .u64⟩
def ty179 : TyI := ⟨false, 1, 1, [.int .u8 0], [.int .u8 0], .int .u8⟩
def ty180 : TyI := ⟨false, 1, 1, [.int .u8 0], [.int .u8 0], .int .u8⟩
def ty183 : TyI := ⟨false, 1, 4, [.int .i32 0], [.int .i32 0], .int .i32⟩
def ty184 : TyI := ⟨false, 1, 4, [.int .i32 0], [.int .i32 0], .int .i32⟩

def tauL : List (Nat × TyI) := [(3, ty3), (4, ty4), (69, ty69), (32, ty32), (2, ty2), (5, ty5), (6, ty6), (7, ty7), (8, ty8), (9, ty9), (10, ty10), (11, ty11), (12, ty12), (13, ty13), (14, ty14), (21, ty21), (22, ty22), (23, ty23), (24, ty24), (25, ty25), (30, ty30), (31, ty31), (38, ty38), (44, ty44), (50, ty50), (52, ty52), (63, ty63), (68, ty68), (71, ty71), (72, ty72), (77, ty77), (78, ty78), (90, ty90), (105, ty105), (128, ty128), (131, ty131), (154, ty154), (161, ty161), (163, ty163), (164, ty164), (179, ty179), (180, ty180), (183, ty183), (184, ty184)]
def tau : Tys := lookTy tauL

set_option maxRecDepth 100000 in
theorem tyOk3 : TyOk Try.prog 3 ty3 := .of _ _ rfl rfl rfl rfl rfl rfl rfl rfl _ rfl rfl rfl
set_option maxRecDepth 100000 in
theorem tyOk4 : TyOk Try.prog 4 ty4 := .of _ _ rfl rfl rfl rfl rfl rfl rfl rfl _ rfl rfl rfl
set_option maxRecDepth 100000 in
theorem tyOk69 : TyOk Try.prog 69 ty69 := .of _ _ rfl rfl rfl rfl rfl rfl rfl rfl _ rfl rfl ⟨_, rfl, rfl⟩
set_option maxRecDepth 100000 in
theorem tyOk32 : TyOk Try.prog 32 ty32 := .of _ _ rfl rfl rfl rfl rfl rfl rfl rfl _ rfl rfl ⟨_, rfl, rfl⟩
set_option maxRecDepth 100000 in
theorem tyOk2 : TyOk Try.prog 2 ty2 := .of _ _ rfl rfl rfl rfl rfl rfl rfl rfl _ rfl rfl rfl
set_option maxRecDepth 100000 in
theorem tyOk5 : TyOk Try.prog 5 ty5 := .of _ _ rfl rfl rfl rfl rfl rfl rfl rfl _ rfl rfl rfl
set_option maxRecDepth 100000 in
theorem tyOk6 : TyOk Try.prog 6 ty6 := .of _ _ rfl rfl rfl rfl rfl rfl rfl rfl _ rfl rfl rfl
set_option maxRecDepth 100000 in
theorem tyOk7 : TyOk Try.prog 7 ty7 := .of _ _ rfl rfl rfl rfl rfl rfl rfl rfl _ rfl rfl ⟨_, rfl, rfl⟩
set_option maxRecDepth 100000 in
theorem tyOk8 : TyOk Try.prog 8 ty8 := .of _ _ rfl rfl rfl rfl rfl rfl rfl rfl _ rfl rfl ⟨_, rfl, rfl⟩
set_option maxRecDepth 100000 in
theorem tyOk9 : TyOk Try.prog 9 ty9 := .of _ _ rfl rfl rfl rfl rfl rfl rfl rfl _ rfl rfl rfl
set_option maxRecDepth 100000 in
theorem tyOk10 : TyOk Try.prog 10 ty10 := .of _ _ rfl rfl rfl rfl rfl rfl rfl rfl _ rfl rfl rfl
set_option maxRecDepth 100000 in
theorem tyOk11 : TyOk Try.prog 11 ty11 := .of _ _ rfl rfl rfl rfl rfl rfl rfl rfl _ rfl rfl rfl
set_option maxRecDepth 100000 in
theorem tyOk12 : TyOk Try.prog 12 ty12 := .of _ _ rfl rfl rfl rfl rfl rfl rfl rfl _ rfl rfl rfl
set_option maxRecDepth 100000 in
theorem tyOk13 : TyOk Try.prog 13 ty13 := .of _ _ rfl rfl rfl rfl rfl rfl rfl rfl _ rfl rfl ⟨_, rfl, rfl⟩
set_option maxRecDepth 100000 in
theorem tyOk14 : TyOk Try.prog 14 ty14 := .of _ _ rfl rfl rfl rfl rfl rfl rfl rfl _ rfl rfl ⟨_, rfl, rfl⟩
set_option maxRecDepth 100000 in
theorem tyOk21 : TyOk Try.prog 21 ty21 := .of _ _ rfl rfl rfl rfl rfl rfl rfl rfl _ rfl rfl rfl
set_option maxRecDepth 100000 in
theorem tyOk22 : TyOk Try.prog 22 ty22 := .of _ _ rfl rfl rfl rfl rfl rfl rfl rfl _ rfl rfl rfl
set_option maxRecDepth 100000 in
theorem tyOk23 : TyOk Try.prog 23 ty23 := .of _ _ rfl rfl rfl rfl rfl rfl rfl rfl _ rfl rfl ⟨_, rfl, rfl⟩
set_option maxRecDepth 100000 in
theorem tyOk24 : TyOk Try.prog 24 ty24 := .of _ _ rfl rfl rfl rfl rfl rfl rfl rfl _ rfl rfl ⟨_, rfl, rfl⟩
set_option maxRecDepth 100000 in
theorem tyOk25 : TyOk Try.prog 25 ty25 := .of _ _ rfl rfl rfl rfl rfl rfl rfl rfl _ rfl rfl rfl
set_option maxRecDepth 100000 in
theorem tyOk30 : TyOk Try.prog 30 ty30 := .of _ _ rfl rfl rfl rfl rfl rfl rfl rfl _ rfl rfl rfl
set_option maxRecDepth 100000 in
theorem tyOk31 : TyOk Try.prog 31 ty31 := .of _ _ rfl rfl rfl rfl rfl rfl rfl rfl _ rfl rfl ⟨_, rfl, rfl⟩
set_option maxRecDepth 100000 in
theorem tyOk38 : TyOk Try.prog 38 ty38 := .of _ _ rfl rfl rfl rfl rfl rfl rfl rfl _ rfl rfl rfl
set_option maxRecDepth 100000 in
theorem tyOk44 : TyOk Try.prog 44 ty44 := .of _ _ rfl rfl rfl rfl rfl rfl rfl rfl _ rfl rfl rfl
set_option maxRecDepth 100000 in
theorem tyOk50 : TyOk Try.prog 50 ty50 := .of _ _ rfl rfl rfl rfl rfl rfl rfl rfl _ rfl rfl rfl
set_option maxRecDepth 100000 in
theorem tyOk52 : TyOk Try.prog 52 ty52 := .of _ _ rfl rfl rfl rfl rfl rfl rfl rfl _ rfl rfl rfl
set_option maxRecDepth 100000 in
theorem tyOk63 : TyOk Try.prog 63 ty63 := .of _ _ rfl rfl rfl rfl rfl rfl rfl rfl _ rfl rfl rfl
set_option maxRecDepth 100000 in
theorem tyOk68 : TyOk Try.prog 68 ty68 := .of _ _ rfl rfl rfl rfl rfl rfl rfl rfl _ rfl rfl ⟨_, rfl, rfl⟩
set_option maxRecDepth 100000 in
theorem tyOk71 : TyOk Try.prog 71 ty71 := .of _ _ rfl rfl rfl rfl rfl rfl rfl rfl _ rfl rfl ⟨_, rfl, rfl⟩
set_option maxRecDepth 100000 in
theorem tyOk72 : TyOk Try.prog 72 ty72 := .of _ _ rfl rfl rfl rfl rfl rfl rfl rfl _ rfl rfl ⟨_, rfl, rfl⟩
set_option maxRecDepth 100000 in
theorem tyOk77 : TyOk Try.prog 77 ty77 := .of _ _ rfl rfl rfl rfl rfl rfl rfl rfl _ rfl rfl ⟨_, rfl, rfl⟩
set_option maxRecDepth 100000 in
theorem tyOk78 : TyOk Try.prog 78 ty78 := .of _ _ rfl rfl rfl rfl rfl rfl rfl rfl _ rfl rfl ⟨_, rfl, rfl⟩
set_option maxRecDepth 100000 in
theorem tyOk90 : TyOk Try.prog 90 ty90 := .of _ _ rfl rfl rfl rfl rfl rfl rfl rfl _ rfl rfl rfl
set_option maxRecDepth 100000 in
theorem tyOk105 : TyOk Try.prog 105 ty105 := .of _ _ rfl rfl rfl rfl rfl rfl rfl rfl _ rfl rfl ⟨_, rfl, rfl⟩
set_option maxRecDepth 100000 in
theorem tyOk128 : TyOk Try.prog 128 ty128 := .of _ _ rfl rfl rfl rfl rfl rfl rfl rfl _ rfl rfl rfl
set_option maxRecDepth 100000 in
theorem tyOk131 : TyOk Try.prog 131 ty131 := .of _ _ rfl rfl rfl rfl rfl rfl rfl rfl _ rfl rfl ⟨_, rfl, rfl⟩
set_option maxRecDepth 100000 in
theorem tyOk154 : TyOk Try.prog 154 ty154 := .of _ _ rfl rfl rfl rfl rfl rfl rfl rfl _ rfl rfl rfl
set_option maxRecDepth 100000 in
theorem tyOk161 : TyOk Try.prog 161 ty161 := .of _ _ rfl rfl rfl rfl rfl rfl rfl rfl _ rfl rfl rfl
set_option maxRecDepth 100000 in
theorem tyOk163 : TyOk Try.prog 163 ty163 := .of _ _ rfl rfl rfl rfl rfl rfl rfl rfl _ rfl rfl rfl
set_option maxRecDepth 100000 in
theorem tyOk164 : TyOk Try.prog 164 ty164 := .of _ _ rfl rfl rfl rfl rfl rfl rfl rfl _ rfl rfl rfl
set_option maxRecDepth 100000 in
theorem tyOk179 : TyOk Try.prog 179 ty179 := .of _ _ rfl rfl rfl rfl rfl rfl rfl rfl _ rfl rfl rfl
set_option maxRecDepth 100000 in
theorem tyOk180 : TyOk Try.prog 180 ty180 := .of _ _ rfl rfl rfl rfl rfl rfl rfl rfl _ rfl rfl rfl
set_option maxRecDepth 100000 in
theorem tyOk183 : TyOk Try.prog 183 ty183 := .of _ _ rfl rfl rfl rfl rfl rfl rfl rfl _ rfl rfl rfl
set_option maxRecDepth 100000 in
theorem tyOk184 : TyOk Try.prog 184 ty184 := .of _ _ rfl rfl rfl rfl rfl rfl rfl rfl _ rfl rfl rfl

set_option maxRecDepth 100000 in
theorem tauOk : TysOk Try.prog tau := lookTy_ok ⟨tyOk3, tyOk4, tyOk69, tyOk32, tyOk2, tyOk5, tyOk6, tyOk7, tyOk8, tyOk9, tyOk10, tyOk11, tyOk12, tyOk13, tyOk14, tyOk21, tyOk22, tyOk23, tyOk24, tyOk25, tyOk30, tyOk31, tyOk38, tyOk44, tyOk50, tyOk52, tyOk63, tyOk68, tyOk71, tyOk72, tyOk77, tyOk78, tyOk90, tyOk105, tyOk128, tyOk131, tyOk154, tyOk161, tyOk163, tyOk164, tyOk179, tyOk180, tyOk183, tyOk184, trivial⟩
theorem mixOk : Try.prog.follows .mixedOrders = true := rfl
end Vg
