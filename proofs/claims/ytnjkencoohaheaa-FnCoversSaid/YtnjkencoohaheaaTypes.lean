/- The table of types of the program. No condition. -/
import Derived.Test.YtnjkencoohaheaaTy
import Derived.Test.YtnjkencoohaheaaProg
namespace Vg
open Go Go.Proofs

def ty3 : TyI := ⟨false, 1, 8, [.int .i64 0], [.int .i64 0], .int .i64⟩
def ty4 : TyI := ⟨false, 1, 1, [.bool false], [.bool false], .bool⟩
def ty35 : TyI := ⟨true, 4, 32, [.int .i64 0, .int .i64 0, .int .i64 0, .int .i64 0], [.int .i64 0, .int .i64 0, .int .i64 0, .int .i64 0], .flds [(0, 3), (1, 3), (2, 3), (3, 3)]⟩
def ty25 : TyI := ⟨true, 4, 48, [.int .i64 0, .int .i64 0, .int .i64 0, .slice none 0 0], [.int .i64 0, .int .i64 0, .int .i64 0, .seq .inss []], .flds [(0, 3), (1, 3), (2, 3), (3, 23)]⟩
def ty2 : TyI := ⟨false, 1, 8, [.int .i64 0], [.int .i64 0], .int .i64⟩
def ty5 : TyI := ⟨false, 1, 1, [.int .u8 0], [.int .u8 0], .int .u8⟩
def ty6 : TyI := ⟨false, 1, 1, [.int .u8 0], [.int .u8 0], .int .u8⟩
def ty7 : TyI := ⟨true, 4, 24, [.int .i64 0, .int .i64 0, .bool false, .int .u8 0], [.int .i64 0, .int .i64 0, .bool false, .int .u8 0], .flds [(0, 2), (1, 3), (2, 4), (3, 6)]⟩
def ty8 : TyI := ⟨true, 4, 24, [.int .i64 0, .int .i64 0, .bool false, .int .u8 0], [.int .i64 0, .int .i64 0, .bool false, .int .u8 0], .flds [(0, 2), (1, 3), (2, 4), (3, 6)]⟩
def ty9 : TyI := ⟨false, 1, 16, [.string ByteArray.empty], [.str ByteArray.empty], .str⟩
def ty10 : TyI := ⟨false, 1, 16, [.string ByteArray.empty], [.str ByteArray.empty], .str⟩
def ty11 : TyI := ⟨false, 1, 16, [.string ByteArray.empty], [.str ByteArray.empty], .str⟩
def ty12 : TyI := ⟨false, 1, 8, [.int .u64 0], [.int .u64 0], .int .u64⟩
def ty13 : TyI := ⟨true, 2, 24, [.string ByteArray.empty, .int .u64 0], [.str ByteArray.empty, .int .u64 0], .flds [(0, 9), (1, 12)]⟩
def ty14 : TyI := ⟨true, 2, 24, [.string ByteArray.empty, .int .u64 0], [.str ByteArray.empty, .int .u64 0], .flds [(0, 9), (1, 12)]⟩
def ty21 : TyI := ⟨false, 1, 4, [.int .i32 0], [.int .i32 0], .int .i32⟩
def ty22 : TyI := ⟨false, 1, 24, [.slice none 0 0], [.seq .bytes []], .slice 5 .bytes⟩
def ty23 : TyI := ⟨false, 1, 24, [.slice none 0 0], [.seq .inss []], .slice 35 .inss⟩
def ty24 : TyI := ⟨true, 4, 48, [.int .i64 0, .int .i64 0, .int .i64 0, .slice none 0 0], [.int .i64 0, .int .i64 0, .int .i64 0, .seq .inss []], .flds [(0, 3), (1, 3), (2, 3), (3, 23)]⟩
def ty27 : TyI := ⟨false, 1, 24, [.slice none 0 0], [.seq .progs []], .slice 25 .progs⟩
def ty29 : TyI := ⟨false, 1, 24, [.slice none 0 0], [.seq .ints []], .slice 3 .ints⟩
def ty31 : TyI := ⟨false, 1, 24, [.slice none 0 0], [.seq .intss []], .slice 29 .intss⟩
def ty34 : TyI := ⟨true, 4, 32, [.int .i64 0, .int .i64 0, .int .i64 0, .int .i64 0], [.int .i64 0, .int .i64 0, .int .i64 0, .int .i64 0], .flds [(0, 3), (1, 3), (2, 3), (3, 3)]⟩
def ty38 : TyI := ⟨true, 8, 128, [.int .i64 0, .slice none 0 0, .slice none 0 0, .slice none 0 0, .int .i64 0, .slice none 0 0, .int .i64 0, .int .i64 0], [.int .i64 0, .seq .ints [], .seq .ints [], .seq .ints [], .int .i64 0, .seq .ints [], .int .i64 0, .int .i64 0], .flds [(0, 3), (1, 29), (2, 29), (3, 29), (4, 3), (5, 29), (6, 3), (7, 3)]⟩
def ty39 : TyI := ⟨true, 8, 128, [.int .i64 0, .slice none 0 0, .slice none 0 0, .slice none 0 0, .int .i64 0, .slice none 0 0, .int .i64 0, .int .i64 0], [.int .i64 0, .seq .ints [], .seq .ints [], .seq .ints [], .int .i64 0, .seq .ints [], .int .i64 0, .int .i64 0], .flds [(0, 3), (1, 29), (2, 29), (3, 29), (4, 3), (5, 29), (6, 3), (7, 3)]⟩
def ty46 : TyI := ⟨false, 1, 24, [.slice none 0 0], [.seq .states []], .slice 39 .states⟩
def ty48 : TyI := ⟨true, 4, 32, [.int .i64 0, .int .i64 0, .int .i64 0, .int .i64 0], [.int .i64 0, .int .i64 0, .int .i64 0, .int .i64 0], .flds [(0, 3), (1, 3), (2, 3), (3, 3)]⟩
def ty49 : TyI := ⟨true, 4, 32, [.int .i64 0, .int .i64 0, .int .i64 0, .int .i64 0], [.int .i64 0, .int .i64 0, .int .i64 0, .int .i64 0], .flds [(0, 3), (1, 3), (2, 3), (3, 3)]⟩
def ty51 : TyI := ⟨false, 1, 24, [.slice none 0 0], [.seq .facts []], .slice 49 .facts⟩
def ty61 : TyI := ⟨false, 1, 24, [.slice none 0 0], [.seq .inss []], .slice 130 .inss⟩
def ty62 : TyI := ⟨true, 4, 48, [.int .i64 0, .int .i64 0, .int .i64 0, .slice none 0 0], [.int .i64 0, .int .i64 0, .int .i64 0, .seq .inss []], .flds [(0, 3), (1, 3), (2, 3), (3, 61)]⟩
def ty63 : TyI := ⟨true, 4, 48, [.int .i64 0, .int .i64 0, .int .i64 0, .slice none 0 0], [.int .i64 0, .int .i64 0, .int .i64 0, .seq .inss []], .flds [(0, 3), (1, 3), (2, 3), (3, 61)]⟩
def ty75 : TyI := ⟨false, 1, 8, [.int .u64 0], [.int .u64 0], .int .u64⟩
def ty103 : TyI := ⟨false, 1, 24, [.slice none 0 0], [.seq .bools []], .slice 4 .bools⟩
def ty112 : TyI := ⟨true, 3, 40, [.slice none 0 0, .int .i64 0, .int .i64 0], [.seq .bytes [], .int .i64 0, .int .i64 0], .flds [(0, 22), (1, 3), (2, 3)]⟩
def ty113 : TyI := ⟨true, 3, 40, [.slice none 0 0, .int .i64 0, .int .i64 0], [.seq .bytes [], .int .i64 0, .int .i64 0], .flds [(0, 22), (1, 3), (2, 3)]⟩
def ty130 : TyI := ⟨true, 4, 32, [.int .i64 0, .int .i64 0, .int .i64 0, .int .i64 0], [.int .i64 0, .int .i64 0, .int .i64 0, .int .i64 0], .flds [(0, 3), (1, 3), (2, 3), (3, 3)]⟩
def ty136 : TyI := ⟨false, 1, 8, [.int .i64 0], [.int .i64 0], .int .i64⟩
def ty143 : TyI := ⟨false, 1, 4, [.int .u32 0], [.int .u32 0], .int .u32⟩
def ty145 : TyI := ⟨false, 1, 8, [.int .u64 0], [.int .u64 0], .int .u64⟩
def ty146 : TyI := ⟨false, 1, 8, [.int .u64 0], [.int .u64 0], .int .u64⟩
def ty161 : TyI := ⟨false, 1, 1, [.int .u8 0], [.int .u8 0], .int .u8⟩
def ty162 : TyI := ⟨false, 1, 1, [.int .u8 0], [.int .u8 0], .int .u8⟩
def ty165 : TyI := ⟨false, 1, 4, [.int .i32 0], [.int .i32 0], .int .i32⟩
def ty166 : TyI := ⟨false, 1, 4, [.int .i32 0], [.int .i32 0], .int .i32⟩

def tauL : List (Nat × TyI) := [(3, ty3), (4, ty4), (35, ty35), (25, ty25), (2, ty2), (5, ty5), (6, ty6), (7, ty7), (8, ty8), (9, ty9), (10, ty10), (11, ty11), (12, ty12), (13, ty13), (14, ty14), (21, ty21), (22, ty22), (23, ty23), (24, ty24), (27, ty27), (29, ty29), (31, ty31), (34, ty34), (38, ty38), (39, ty39), (46, ty46), (48, ty48), (49, ty49), (51, ty51), (61, ty61), (62, ty62), (63, ty63), (75, ty75), (103, ty103), (112, ty112), (113, ty113), (130, ty130), (136, ty136), (143, ty143), (145, ty145), (146, ty146), (161, ty161), (162, ty162), (165, ty165), (166, ty166)]
def tau : Tys := lookTy tauL

set_option maxRecDepth 100000 in
theorem tyOk3 : TyOk Try.prog 3 ty3 := .of _ _ rfl rfl rfl rfl rfl rfl rfl rfl _ rfl rfl rfl
set_option maxRecDepth 100000 in
theorem tyOk4 : TyOk Try.prog 4 ty4 := .of _ _ rfl rfl rfl rfl rfl rfl rfl rfl _ rfl rfl rfl
set_option maxRecDepth 100000 in
theorem tyOk35 : TyOk Try.prog 35 ty35 := .of _ _ rfl rfl rfl rfl rfl rfl rfl rfl _ rfl rfl ⟨_, rfl, rfl⟩
set_option maxRecDepth 100000 in
theorem tyOk25 : TyOk Try.prog 25 ty25 := .of _ _ rfl rfl rfl rfl rfl rfl rfl rfl _ rfl rfl ⟨_, rfl, rfl⟩
set_option maxRecDepth 100000 in
theorem tyOk2 : TyOk Try.prog 2 ty2 := .of _ _ rfl rfl rfl rfl rfl rfl rfl rfl _ rfl rfl rfl
set_option maxRecDepth 100000 in
theorem tyOk5 : TyOk Try.prog 5 ty5 := .of _ _ rfl rfl rfl rfl rfl rfl rfl rfl _ rfl rfl rfl
set_option maxRecDepth 100000 in
theorem tyOk6 : TyOk Try.prog 6 ty6 := .of _ _ rfl rfl rfl rfl rfl rfl rfl rfl _ rfl rfl rfl
set_option maxRecDepth 100000 in
theorem tyOk7 : TyOk Try.prog 7 ty7 := .of _ _ rfl rfl rfl rfl rfl rfl rfl rfl _ rfl rfl ⟨_, rfl, rfl⟩
set_option maxRecDepth 100000 in
theorem tyOk8 : TyOk Try.prog 8 ty8 := .of _ _ rfl rfl rfl rfl rfl rfl rfl rfl _ rfl rfl ⟨_, rfl, rfl⟩
set_option maxRecDepth 100000 in
theorem tyOk9 : TyOk Try.prog 9 ty9 := .of _ _ rfl rfl rfl rfl rfl rfl rfl rfl _ rfl rfl rfl
set_option maxRecDepth 100000 in
theorem tyOk10 : TyOk Try.prog 10 ty10 := .of _ _ rfl rfl rfl rfl rfl rfl rfl rfl _ rfl rfl rfl
set_option maxRecDepth 100000 in
theorem tyOk11 : TyOk Try.prog 11 ty11 := .of _ _ rfl rfl rfl rfl rfl rfl rfl rfl _ rfl rfl rfl
set_option maxRecDepth 100000 in
theorem tyOk12 : TyOk Try.prog 12 ty12 := .of _ _ rfl rfl rfl rfl rfl rfl rfl rfl _ rfl rfl rfl
set_option maxRecDepth 100000 in
theorem tyOk13 : TyOk Try.prog 13 ty13 := .of _ _ rfl rfl rfl rfl rfl rfl rfl rfl _ rfl rfl ⟨_, rfl, rfl⟩
set_option maxRecDepth 100000 in
theorem tyOk14 : TyOk Try.prog 14 ty14 := .of _ _ rfl rfl rfl rfl rfl rfl rfl rfl _ rfl rfl ⟨_, rfl, rfl⟩
set_option maxRecDepth 100000 in
theorem tyOk21 : TyOk Try.prog 21 ty21 := .of _ _ rfl rfl rfl rfl rfl rfl rfl rfl _ rfl rfl rfl
set_option maxRecDepth 100000 in
theorem tyOk22 : TyOk Try.prog 22 ty22 := .of _ _ rfl rfl rfl rfl rfl rfl rfl rfl _ rfl rfl rfl
set_option maxRecDepth 100000 in
theorem tyOk23 : TyOk Try.prog 23 ty23 := .of _ _ rfl rfl rfl rfl rfl rfl rfl rfl _ rfl rfl rfl
set_option maxRecDepth 100000 in
theorem tyOk24 : TyOk Try.prog 24 ty24 := .of _ _ rfl rfl rfl rfl rfl rfl rfl rfl _ rfl rfl ⟨_, rfl, rfl⟩
set_option maxRecDepth 100000 in
theorem tyOk27 : TyOk Try.prog 27 ty27 := .of _ _ rfl rfl rfl rfl rfl rfl rfl rfl _ rfl rfl rfl
set_option maxRecDepth 100000 in
theorem tyOk29 : TyOk Try.prog 29 ty29 := .of _ _ rfl rfl rfl rfl rfl rfl rfl rfl _ rfl rfl rfl
set_option maxRecDepth 100000 in
theorem tyOk31 : TyOk Try.prog 31 ty31 := .of _ _ rfl rfl rfl rfl rfl rfl rfl rfl _ rfl rfl rfl
set_option maxRecDepth 100000 in
theorem tyOk34 : TyOk Try.prog 34 ty34 := .of _ _ rfl rfl rfl rfl rfl rfl rfl rfl _ rfl rfl ⟨_, rfl, rfl⟩
set_option maxRecDepth 100000 in
theorem tyOk38 : TyOk Try.prog 38 ty38 := .of _ _ rfl rfl rfl rfl rfl rfl rfl rfl _ rfl rfl ⟨_, rfl, rfl⟩
set_option maxRecDepth 100000 in
theorem tyOk39 : TyOk Try.prog 39 ty39 := .of _ _ rfl rfl rfl rfl rfl rfl rfl rfl _ rfl rfl ⟨_, rfl, rfl⟩
set_option maxRecDepth 100000 in
theorem tyOk46 : TyOk Try.prog 46 ty46 := .of _ _ rfl rfl rfl rfl rfl rfl rfl rfl _ rfl rfl rfl
set_option maxRecDepth 100000 in
theorem tyOk48 : TyOk Try.prog 48 ty48 := .of _ _ rfl rfl rfl rfl rfl rfl rfl rfl _ rfl rfl ⟨_, rfl, rfl⟩
set_option maxRecDepth 100000 in
theorem tyOk49 : TyOk Try.prog 49 ty49 := .of _ _ rfl rfl rfl rfl rfl rfl rfl rfl _ rfl rfl ⟨_, rfl, rfl⟩
set_option maxRecDepth 100000 in
theorem tyOk51 : TyOk Try.prog 51 ty51 := .of _ _ rfl rfl rfl rfl rfl rfl rfl rfl _ rfl rfl rfl
set_option maxRecDepth 100000 in
theorem tyOk61 : TyOk Try.prog 61 ty61 := .of _ _ rfl rfl rfl rfl rfl rfl rfl rfl _ rfl rfl rfl
set_option maxRecDepth 100000 in
theorem tyOk62 : TyOk Try.prog 62 ty62 := .of _ _ rfl rfl rfl rfl rfl rfl rfl rfl _ rfl rfl ⟨_, rfl, rfl⟩
set_option maxRecDepth 100000 in
theorem tyOk63 : TyOk Try.prog 63 ty63 := .of _ _ rfl rfl rfl rfl rfl rfl rfl rfl _ rfl rfl ⟨_, rfl, rfl⟩
set_option maxRecDepth 100000 in
theorem tyOk75 : TyOk Try.prog 75 ty75 := .of _ _ rfl rfl rfl rfl rfl rfl rfl rfl _ rfl rfl rfl
set_option maxRecDepth 100000 in
theorem tyOk103 : TyOk Try.prog 103 ty103 := .of _ _ rfl rfl rfl rfl rfl rfl rfl rfl _ rfl rfl rfl
set_option maxRecDepth 100000 in
theorem tyOk112 : TyOk Try.prog 112 ty112 := .of _ _ rfl rfl rfl rfl rfl rfl rfl rfl _ rfl rfl ⟨_, rfl, rfl⟩
set_option maxRecDepth 100000 in
theorem tyOk113 : TyOk Try.prog 113 ty113 := .of _ _ rfl rfl rfl rfl rfl rfl rfl rfl _ rfl rfl ⟨_, rfl, rfl⟩
set_option maxRecDepth 100000 in
theorem tyOk130 : TyOk Try.prog 130 ty130 := .of _ _ rfl rfl rfl rfl rfl rfl rfl rfl _ rfl rfl ⟨_, rfl, rfl⟩
set_option maxRecDepth 100000 in
theorem tyOk136 : TyOk Try.prog 136 ty136 := .of _ _ rfl rfl rfl rfl rfl rfl rfl rfl _ rfl rfl rfl
set_option maxRecDepth 100000 in
theorem tyOk143 : TyOk Try.prog 143 ty143 := .of _ _ rfl rfl rfl rfl rfl rfl rfl rfl _ rfl rfl rfl
set_option maxRecDepth 100000 in
theorem tyOk145 : TyOk Try.prog 145 ty145 := .of _ _ rfl rfl rfl rfl rfl rfl rfl rfl _ rfl rfl rfl
set_option maxRecDepth 100000 in
theorem tyOk146 : TyOk Try.prog 146 ty146 := .of _ _ rfl rfl rfl rfl rfl rfl rfl rfl _ rfl rfl rfl
set_option maxRecDepth 100000 in
theorem tyOk161 : TyOk Try.prog 161 ty161 := .of _ _ rfl rfl rfl rfl rfl rfl rfl rfl _ rfl rfl rfl
set_option maxRecDepth 100000 in
theorem tyOk162 : TyOk Try.prog 162 ty162 := .of _ _ rfl rfl rfl rfl rfl rfl rfl rfl _ rfl rfl rfl
set_option maxRecDepth 100000 in
theorem tyOk165 : TyOk Try.prog 165 ty165 := .of _ _ rfl rfl rfl rfl rfl rfl rfl rfl _ rfl rfl rfl
set_option maxRecDepth 100000 in
theorem tyOk166 : TyOk Try.prog 166 ty166 := .of _ _ rfl rfl rfl rfl rfl rfl rfl rfl _ rfl rfl rfl

set_option maxRecDepth 100000 in
theorem tauOk : TysOk Try.prog tau := lookTy_ok ⟨tyOk3, tyOk4, tyOk35, tyOk25, tyOk2, tyOk5, tyOk6, tyOk7, tyOk8, tyOk9, tyOk10, tyOk11, tyOk12, tyOk13, tyOk14, tyOk21, tyOk22, tyOk23, tyOk24, tyOk27, tyOk29, tyOk31, tyOk34, tyOk38, tyOk39, tyOk46, tyOk48, tyOk49, tyOk51, tyOk61, tyOk62, tyOk63, tyOk75, tyOk103, tyOk112, tyOk113, tyOk130, tyOk136, tyOk143, tyOk145, tyOk146, tyOk161, tyOk162, tyOk165, tyOk166, trivial⟩
theorem mixOk : Try.prog.follows .mixedOrders = true := rfl
end Vg
