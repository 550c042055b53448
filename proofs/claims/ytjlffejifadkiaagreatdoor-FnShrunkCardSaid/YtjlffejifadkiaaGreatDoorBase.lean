/- The table of types of the program. No condition. -/
import Derived.Test.YtjlffejifadkiaaGreatDoorTy
import Derived.Test.YtjlffejifadkiaaGreatDoorProg
import Derived.Shelf.Small.Strs
namespace Vg
open Go Go.Proofs
set_option maxRecDepth 100000
set_option maxHeartbeats 40000000
def ty3 : TyI := ⟨false, 1, 8, [.int .i64 0], [.int .i64 0], .int .i64⟩
def ty4 : TyI := ⟨false, 1, 1, [.bool false], [.bool false], .bool⟩
def ty66 : TyI := ⟨true, 4, 32, [.int .i64 0, .int .i64 0, .int .i64 0, .int .i64 0], [.int .i64 0, .int .i64 0, .int .i64 0, .int .i64 0], .flds [(0, 3), (1, 3), (2, 3), (3, 3)]⟩
def ty25 : TyI := ⟨true, 4, 48, [.int .i64 0, .int .i64 0, .int .i64 0, .slice none 0 0], [.int .i64 0, .int .i64 0, .int .i64 0, .seq .inss []], .flds [(0, 3), (1, 3), (2, 3), (3, 23)]⟩
def ty2 : TyI := ⟨false, 1, 8, [.int .i64 0], [.int .i64 0], .int .i64⟩
def ty5 : TyI := ⟨false, 1, 1, [.int .u8 0], [.int .u8 0], .int .u8⟩
def ty6 : TyI := ⟨false, 1, 1, [.int .u8 0], [.int .u8 0], .int .u8⟩
def ty7 : TyI := ⟨true, 4, 24, [.int .i64 0, .int .i64 0, .bool false, .int .u8 0], [.int .i64 0, .int .i64 0, .bool false, .int .u8 0], .flds [(0, 2), (1, 3), (2, 4), (3, 6)]⟩
def ty8 : TyI := ⟨true, 4, 24, [.int .i64 0, .int .i64 0, .bool false, .int .u8 0], [.int .i64 0, .int .i64 0, .bool false, .int .u8 0], .flds [(0, 2), (1, 3), (2, 4), (3, 6)]⟩
def ty9 : TyI := ⟨false, 1, 16, [.string ByteArray.empty], [.str ByteArray.empty], .str⟩
def ty10 : TyI := ⟨false, 1, 16, [.string ByteArray.empty], [.str ByteArray.empty], .str⟩
def ty11 : TyI := ⟨false, 1, 16, [.string ByteArray.empty], [.str ByteArray.empty], .str⟩
def ty12 : TyI := ⟨false, 1, 8, [.int .u64 0], [.int .u64 0], .int .u64⟩
def ty13 : TyI := ⟨true, 2, 24, [.string ByteArray.empty, .int .u64 0], [.str ByteArray.empty, .int .u64 0], .flds [(0, 9), (1, 12)]⟩
def ty14 : TyI := ⟨true, 2, 24, [.string ByteArray.empty, .int .u64 0], [.str ByteArray.empty, .int .u64 0], .flds [(0, 9), (1, 12)]⟩
def ty20 : TyI := ⟨false, 1, 16, [.nilIface], [.err false], .iface⟩
def ty21 : TyI := ⟨false, 1, 4, [.int .i32 0], [.int .i32 0], .int .i32⟩
def ty22 : TyI := ⟨false, 1, 24, [.slice none 0 0], [.seq .bytes []], .slice 5 .bytes⟩
def ty23 : TyI := ⟨false, 1, 24, [.slice none 0 0], [.seq .inss []], .slice 66 .inss⟩
def ty24 : TyI := ⟨true, 4, 48, [.int .i64 0, .int .i64 0, .int .i64 0, .slice none 0 0], [.int .i64 0, .int .i64 0, .int .i64 0, .seq .inss []], .flds [(0, 3), (1, 3), (2, 3), (3, 23)]⟩
def ty27 : TyI := ⟨false, 1, 24, [.slice none 0 0], [.seq .ints []], .slice 3 .ints⟩
def ty31 : TyI := ⟨false, 1, 24, [.slice none 0 0], [.seq .terms []], .slice 108 .terms⟩
def ty32 : TyI := ⟨true, 10, 176, [.int .i64 0, .slice none 0 0, .slice none 0 0, .slice none 0 0, .int .i64 0, .slice none 0 0, .int .i64 0, .int .i64 0, .slice none 0 0, .slice none 0 0], [.int .i64 0, .seq .terms [], .seq .terms [], .seq .ints [], .int .i64 0, .seq .terms [], .int .i64 0, .int .i64 0, .seq .terms [], .seq .ints []], .flds [(0, 3), (1, 31), (2, 31), (3, 27), (4, 3), (5, 31), (6, 3), (7, 3), (8, 31), (9, 27)]⟩
def ty33 : TyI := ⟨true, 10, 176, [.int .i64 0, .slice none 0 0, .slice none 0 0, .slice none 0 0, .int .i64 0, .slice none 0 0, .int .i64 0, .int .i64 0, .slice none 0 0, .slice none 0 0], [.int .i64 0, .seq .terms [], .seq .terms [], .seq .ints [], .int .i64 0, .seq .terms [], .int .i64 0, .int .i64 0, .seq .terms [], .seq .ints []], .flds [(0, 3), (1, 31), (2, 31), (3, 27), (4, 3), (5, 31), (6, 3), (7, 3), (8, 31), (9, 27)]⟩
def ty38 : TyI := ⟨false, 1, 24, [.slice none 0 0], [.seq .inss []], .slice 126 .inss⟩
def ty39 : TyI := ⟨true, 4, 48, [.int .i64 0, .int .i64 0, .int .i64 0, .slice none 0 0], [.int .i64 0, .int .i64 0, .int .i64 0, .seq .inss []], .flds [(0, 3), (1, 3), (2, 3), (3, 38)]⟩
def ty40 : TyI := ⟨true, 4, 48, [.int .i64 0, .int .i64 0, .int .i64 0, .slice none 0 0], [.int .i64 0, .int .i64 0, .int .i64 0, .seq .inss []], .flds [(0, 3), (1, 3), (2, 3), (3, 38)]⟩
def ty48 : TyI := ⟨false, 1, 24, [.slice none 0 0], [.seq .intss []], .slice 129 .intss⟩
def ty49 : TyI := ⟨false, 1, 24, [.slice none 0 0], [.seq .bools []], .slice 4 .bools⟩
def ty50 : TyI := ⟨true, 5, 104, [.int .i64 0, .slice none 0 0, .slice none 0 0, .slice none 0 0, .slice none 0 0], [.int .i64 0, .seq .intss [], .seq .intss [], .seq .bools [], .seq .intss []], .flds [(0, 3), (1, 48), (2, 48), (3, 49), (4, 48)]⟩
def ty51 : TyI := ⟨true, 5, 104, [.int .i64 0, .slice none 0 0, .slice none 0 0, .slice none 0 0, .slice none 0 0], [.int .i64 0, .seq .intss [], .seq .intss [], .seq .bools [], .seq .intss []], .flds [(0, 3), (1, 48), (2, 48), (3, 49), (4, 48)]⟩
def ty54 : TyI := ⟨false, 1, 24, [.slice none 0 0], [.seq .intss []], .slice 85 .intss⟩
def ty55 : TyI := ⟨true, 5, 104, [.int .i64 0, .slice none 0 0, .slice none 0 0, .slice none 0 0, .slice none 0 0], [.int .i64 0, .seq .intss [], .seq .intss [], .seq .bools [], .seq .intss []], .flds [(0, 3), (1, 54), (2, 54), (3, 49), (4, 54)]⟩
def ty56 : TyI := ⟨true, 5, 104, [.int .i64 0, .slice none 0 0, .slice none 0 0, .slice none 0 0, .slice none 0 0], [.int .i64 0, .seq .intss [], .seq .intss [], .seq .bools [], .seq .intss []], .flds [(0, 3), (1, 54), (2, 54), (3, 49), (4, 54)]⟩
def ty65 : TyI := ⟨true, 4, 32, [.int .i64 0, .int .i64 0, .int .i64 0, .int .i64 0], [.int .i64 0, .int .i64 0, .int .i64 0, .int .i64 0], .flds [(0, 3), (1, 3), (2, 3), (3, 3)]⟩
def ty74 : TyI := ⟨false, 1, 24, [.slice none 0 0], [.seq .paths []], .slice 33 .paths⟩
def ty84 : TyI := ⟨true, 1, 24, [.slice none 0 0], [.seq .ints []], .flds [(0, 27)]⟩
def ty85 : TyI := ⟨true, 1, 24, [.slice none 0 0], [.seq .ints []], .flds [(0, 27)]⟩
def ty95 : TyI := ⟨true, 3, 40, [.slice none 0 0, .int .i64 0, .int .i64 0], [.seq .bytes [], .int .i64 0, .int .i64 0], .flds [(0, 22), (1, 3), (2, 3)]⟩
def ty96 : TyI := ⟨true, 3, 40, [.slice none 0 0, .int .i64 0, .int .i64 0], [.seq .bytes [], .int .i64 0, .int .i64 0], .flds [(0, 22), (1, 3), (2, 3)]⟩
def ty101 : TyI := ⟨false, 1, 8, [.map none], [], .map⟩
def ty102 : TyI := ⟨false, 1, 24, [.slice none 0 0], [.seq .vals []], .slice 105 .vals⟩
def ty104 : TyI := ⟨true, 3, 32, [.string ByteArray.empty, .int .i64 0, .int .i64 0], [.str ByteArray.empty, .int .i64 0, .int .i64 0], .flds [(0, 9), (1, 3), (2, 3)]⟩
def ty105 : TyI := ⟨true, 3, 32, [.string ByteArray.empty, .int .i64 0, .int .i64 0], [.str ByteArray.empty, .int .i64 0, .int .i64 0], .flds [(0, 9), (1, 3), (2, 3)]⟩
def ty107 : TyI := ⟨true, 5, 64, [.int .i64 0, .int .i64 0, .int .i64 0, .string ByteArray.empty, .slice none 0 0], [.int .i64 0, .int .i64 0, .int .i64 0, .str ByteArray.empty, .seq .terms []], .flds [(0, 3), (1, 3), (2, 3), (3, 9), (4, 31)]⟩
def ty108 : TyI := ⟨true, 5, 64, [.int .i64 0, .int .i64 0, .int .i64 0, .string ByteArray.empty, .slice none 0 0], [.int .i64 0, .int .i64 0, .int .i64 0, .str ByteArray.empty, .seq .terms []], .flds [(0, 3), (1, 3), (2, 3), (3, 9), (4, 31)]⟩
def ty113 : TyI := ⟨true, 1, 1, [.bool false], [.bool false], .flds [(0, 4)]⟩
def ty114 : TyI := ⟨true, 1, 1, [.bool false], [.bool false], .flds [(0, 4)]⟩
def ty126 : TyI := ⟨true, 4, 32, [.int .i64 0, .int .i64 0, .int .i64 0, .int .i64 0], [.int .i64 0, .int .i64 0, .int .i64 0, .int .i64 0], .flds [(0, 3), (1, 3), (2, 3), (3, 3)]⟩
def ty129 : TyI := ⟨true, 1, 24, [.slice none 0 0], [.seq .ints []], .flds [(0, 27)]⟩
def ty132 : TyI := ⟨false, 1, 24, [.slice none 0 0], [.seq .strs []], .slice 9 .strs⟩
def ty139 : TyI := ⟨false, 1, 8, [.int .u64 0], [.int .u64 0], .int .u64⟩
def ty171 : TyI := ⟨false, 1, 16, [.nilIface], [.err false], .iface⟩
def ty172 : TyI := ⟨false, 1, 16, [.nilIface], [.err false], .iface⟩
def ty188 : TyI := ⟨false, 1, 8, [.int .u64 0], [.int .u64 0], .int .u64⟩
def ty196 : TyI := ⟨true, 2, 16, [.int .i64 0, .map none], [], .flds [(0, 3), (1, 101)]⟩
def ty197 : TyI := ⟨true, 2, 16, [.int .i64 0, .map none], [], .flds [(0, 3), (1, 101)]⟩
def ty203 : TyI := ⟨false, 1, 4, [.int .u32 0], [.int .u32 0], .int .u32⟩
def ty222 : TyI := ⟨false, 1, 1, [.int .u8 0], [.int .u8 0], .int .u8⟩
def ty223 : TyI := ⟨false, 1, 1, [.int .u8 0], [.int .u8 0], .int .u8⟩
def ty225 : TyI := ⟨false, 1, 4, [.int .i32 0], [.int .i32 0], .int .i32⟩
def ty226 : TyI := ⟨false, 1, 4, [.int .i32 0], [.int .i32 0], .int .i32⟩
def tauL : List (Nat × TyI) := [(3, ty3), (4, ty4), (66, ty66), (25, ty25), (2, ty2), (5, ty5), (6, ty6), (7, ty7), (8, ty8), (9, ty9), (10, ty10), (11, ty11), (12, ty12), (13, ty13), (14, ty14), (20, ty20), (21, ty21), (22, ty22), (23, ty23), (24, ty24), (27, ty27), (31, ty31), (32, ty32), (33, ty33), (38, ty38), (39, ty39), (40, ty40), (48, ty48), (49, ty49), (50, ty50), (51, ty51), (54, ty54), (55, ty55), (56, ty56), (65, ty65), (74, ty74), (84, ty84), (85, ty85), (95, ty95), (96, ty96), (101, ty101), (102, ty102), (104, ty104), (105, ty105), (107, ty107), (108, ty108), (113, ty113), (114, ty114), (126, ty126), (129, ty129), (132, ty132), (139, ty139), (171, ty171), (172, ty172), (188, ty188), (196, ty196), (197, ty197), (203, ty203), (222, ty222), (223, ty223), (225, ty225), (226, ty226)]
def tau : Tys := jN tauL
theorem tyOk3 : TyOk Tryz.prog 3 ty3 := .of _ _ rfl rfl rfl rfl rfl (.inr rfl) rfl rfl _ rfl rfl rfl
theorem tyOk4 : TyOk Tryz.prog 4 ty4 := .of _ _ rfl rfl rfl rfl rfl (.inr rfl) rfl rfl _ rfl rfl rfl
theorem tyOk66 : TyOk Tryz.prog 66 ty66 := .of _ _ rfl rfl rfl rfl rfl (.inr rfl) rfl rfl _ rfl rfl ⟨_, rfl, rfl⟩
theorem tyOk25 : TyOk Tryz.prog 25 ty25 := .of _ _ rfl rfl rfl rfl rfl (.inr rfl) rfl rfl _ rfl rfl ⟨_, rfl, rfl⟩
theorem tyOk2 : TyOk Tryz.prog 2 ty2 := .of _ _ rfl rfl rfl rfl rfl (.inr rfl) rfl rfl _ rfl rfl rfl
theorem tyOk5 : TyOk Tryz.prog 5 ty5 := .of _ _ rfl rfl rfl rfl rfl (.inr rfl) rfl rfl _ rfl rfl rfl
theorem tyOk6 : TyOk Tryz.prog 6 ty6 := .of _ _ rfl rfl rfl rfl rfl (.inr rfl) rfl rfl _ rfl rfl rfl
theorem tyOk7 : TyOk Tryz.prog 7 ty7 := .of _ _ rfl rfl rfl rfl rfl (.inr rfl) rfl rfl _ rfl rfl ⟨_, rfl, rfl⟩
theorem tyOk8 : TyOk Tryz.prog 8 ty8 := .of _ _ rfl rfl rfl rfl rfl (.inr rfl) rfl rfl _ rfl rfl ⟨_, rfl, rfl⟩
theorem tyOk9 : TyOk Tryz.prog 9 ty9 := .of _ _ rfl rfl rfl rfl rfl (.inr rfl) rfl rfl _ rfl rfl rfl
theorem tyOk10 : TyOk Tryz.prog 10 ty10 := .of _ _ rfl rfl rfl rfl rfl (.inr rfl) rfl rfl _ rfl rfl rfl
theorem tyOk11 : TyOk Tryz.prog 11 ty11 := .of _ _ rfl rfl rfl rfl rfl (.inr rfl) rfl rfl _ rfl rfl rfl
theorem tyOk12 : TyOk Tryz.prog 12 ty12 := .of _ _ rfl rfl rfl rfl rfl (.inr rfl) rfl rfl _ rfl rfl rfl
theorem tyOk13 : TyOk Tryz.prog 13 ty13 := .of _ _ rfl rfl rfl rfl rfl (.inr rfl) rfl rfl _ rfl rfl ⟨_, rfl, rfl⟩
theorem tyOk14 : TyOk Tryz.prog 14 ty14 := .of _ _ rfl rfl rfl rfl rfl (.inr rfl) rfl rfl _ rfl rfl ⟨_, rfl, rfl⟩
theorem tyOk20 : TyOk Tryz.prog 20 ty20 := .of _ _ rfl rfl rfl rfl rfl (.inr rfl) rfl rfl _ rfl rfl ⟨_, rfl⟩
theorem tyOk21 : TyOk Tryz.prog 21 ty21 := .of _ _ rfl rfl rfl rfl rfl (.inr rfl) rfl rfl _ rfl rfl rfl
theorem tyOk22 : TyOk Tryz.prog 22 ty22 := .of _ _ rfl rfl rfl rfl rfl (.inr rfl) rfl rfl _ rfl rfl rfl
theorem tyOk23 : TyOk Tryz.prog 23 ty23 := .of _ _ rfl rfl rfl rfl rfl (.inr rfl) rfl rfl _ rfl rfl rfl
theorem tyOk24 : TyOk Tryz.prog 24 ty24 := .of _ _ rfl rfl rfl rfl rfl (.inr rfl) rfl rfl _ rfl rfl ⟨_, rfl, rfl⟩
theorem tyOk27 : TyOk Tryz.prog 27 ty27 := .of _ _ rfl rfl rfl rfl rfl (.inr rfl) rfl rfl _ rfl rfl rfl
theorem tyOk31 : TyOk Tryz.prog 31 ty31 := .of _ _ rfl rfl rfl rfl rfl (.inr rfl) rfl rfl _ rfl rfl rfl
theorem tyOk32 : TyOk Tryz.prog 32 ty32 := .of _ _ rfl rfl rfl rfl rfl (.inr rfl) rfl rfl _ rfl rfl ⟨_, rfl, rfl⟩
theorem tyOk33 : TyOk Tryz.prog 33 ty33 := .of _ _ rfl rfl rfl rfl rfl (.inr rfl) rfl rfl _ rfl rfl ⟨_, rfl, rfl⟩
theorem tyOk38 : TyOk Tryz.prog 38 ty38 := .of _ _ rfl rfl rfl rfl rfl (.inr rfl) rfl rfl _ rfl rfl rfl
theorem tyOk39 : TyOk Tryz.prog 39 ty39 := .of _ _ rfl rfl rfl rfl rfl (.inr rfl) rfl rfl _ rfl rfl ⟨_, rfl, rfl⟩
theorem tyOk40 : TyOk Tryz.prog 40 ty40 := .of _ _ rfl rfl rfl rfl rfl (.inr rfl) rfl rfl _ rfl rfl ⟨_, rfl, rfl⟩
theorem tyOk48 : TyOk Tryz.prog 48 ty48 := .of _ _ rfl rfl rfl rfl rfl (.inr rfl) rfl rfl _ rfl rfl rfl
theorem tyOk49 : TyOk Tryz.prog 49 ty49 := .of _ _ rfl rfl rfl rfl rfl (.inr rfl) rfl rfl _ rfl rfl rfl
theorem tyOk50 : TyOk Tryz.prog 50 ty50 := .of _ _ rfl rfl rfl rfl rfl (.inr rfl) rfl rfl _ rfl rfl ⟨_, rfl, rfl⟩
theorem tyOk51 : TyOk Tryz.prog 51 ty51 := .of _ _ rfl rfl rfl rfl rfl (.inr rfl) rfl rfl _ rfl rfl ⟨_, rfl, rfl⟩
theorem tyOk54 : TyOk Tryz.prog 54 ty54 := .of _ _ rfl rfl rfl rfl rfl (.inr rfl) rfl rfl _ rfl rfl rfl
theorem tyOk55 : TyOk Tryz.prog 55 ty55 := .of _ _ rfl rfl rfl rfl rfl (.inr rfl) rfl rfl _ rfl rfl ⟨_, rfl, rfl⟩
theorem tyOk56 : TyOk Tryz.prog 56 ty56 := .of _ _ rfl rfl rfl rfl rfl (.inr rfl) rfl rfl _ rfl rfl ⟨_, rfl, rfl⟩
theorem tyOk65 : TyOk Tryz.prog 65 ty65 := .of _ _ rfl rfl rfl rfl rfl (.inr rfl) rfl rfl _ rfl rfl ⟨_, rfl, rfl⟩
theorem tyOk74 : TyOk Tryz.prog 74 ty74 := .of _ _ rfl rfl rfl rfl rfl (.inr rfl) rfl rfl _ rfl rfl rfl
theorem tyOk84 : TyOk Tryz.prog 84 ty84 := .of _ _ rfl rfl rfl rfl rfl (.inr rfl) rfl rfl _ rfl rfl ⟨_, rfl, rfl⟩
theorem tyOk85 : TyOk Tryz.prog 85 ty85 := .of _ _ rfl rfl rfl rfl rfl (.inr rfl) rfl rfl _ rfl rfl ⟨_, rfl, rfl⟩
theorem tyOk95 : TyOk Tryz.prog 95 ty95 := .of _ _ rfl rfl rfl rfl rfl (.inr rfl) rfl rfl _ rfl rfl ⟨_, rfl, rfl⟩
theorem tyOk96 : TyOk Tryz.prog 96 ty96 := .of _ _ rfl rfl rfl rfl rfl (.inr rfl) rfl rfl _ rfl rfl ⟨_, rfl, rfl⟩
theorem tyOk101 : TyOk Tryz.prog 101 ty101 := .of _ _ rfl rfl rfl rfl rfl (.inl rfl) rfl rfl _ rfl rfl ⟨_, _, rfl, rfl, fun _ => rfl⟩
theorem tyOk102 : TyOk Tryz.prog 102 ty102 := .of _ _ rfl rfl rfl rfl rfl (.inr rfl) rfl rfl _ rfl rfl rfl
theorem tyOk104 : TyOk Tryz.prog 104 ty104 := .of _ _ rfl rfl rfl rfl rfl (.inr rfl) rfl rfl _ rfl rfl ⟨_, rfl, rfl⟩
theorem tyOk105 : TyOk Tryz.prog 105 ty105 := .of _ _ rfl rfl rfl rfl rfl (.inr rfl) rfl rfl _ rfl rfl ⟨_, rfl, rfl⟩
theorem tyOk107 : TyOk Tryz.prog 107 ty107 := .of _ _ rfl rfl rfl rfl rfl (.inr rfl) rfl rfl _ rfl rfl ⟨_, rfl, rfl⟩
theorem tyOk108 : TyOk Tryz.prog 108 ty108 := .of _ _ rfl rfl rfl rfl rfl (.inr rfl) rfl rfl _ rfl rfl ⟨_, rfl, rfl⟩
theorem tyOk113 : TyOk Tryz.prog 113 ty113 := .of _ _ rfl rfl rfl rfl rfl (.inr rfl) rfl rfl _ rfl rfl ⟨_, rfl, rfl⟩
theorem tyOk114 : TyOk Tryz.prog 114 ty114 := .of _ _ rfl rfl rfl rfl rfl (.inr rfl) rfl rfl _ rfl rfl ⟨_, rfl, rfl⟩
theorem tyOk126 : TyOk Tryz.prog 126 ty126 := .of _ _ rfl rfl rfl rfl rfl (.inr rfl) rfl rfl _ rfl rfl ⟨_, rfl, rfl⟩
theorem tyOk129 : TyOk Tryz.prog 129 ty129 := .of _ _ rfl rfl rfl rfl rfl (.inr rfl) rfl rfl _ rfl rfl ⟨_, rfl, rfl⟩
theorem tyOk132 : TyOk Tryz.prog 132 ty132 := .of _ _ rfl rfl rfl rfl rfl (.inr rfl) rfl rfl _ rfl rfl rfl
theorem tyOk139 : TyOk Tryz.prog 139 ty139 := .of _ _ rfl rfl rfl rfl rfl (.inr rfl) rfl rfl _ rfl rfl rfl
theorem tyOk171 : TyOk Tryz.prog 171 ty171 := .of _ _ rfl rfl rfl rfl rfl (.inr rfl) rfl rfl _ rfl rfl ⟨_, rfl⟩
theorem tyOk172 : TyOk Tryz.prog 172 ty172 := .of _ _ rfl rfl rfl rfl rfl (.inr rfl) rfl rfl _ rfl rfl ⟨_, rfl⟩
theorem tyOk188 : TyOk Tryz.prog 188 ty188 := .of _ _ rfl rfl rfl rfl rfl (.inr rfl) rfl rfl _ rfl rfl rfl
theorem tyOk196 : TyOk Tryz.prog 196 ty196 := .of _ _ rfl rfl rfl rfl rfl (.inl rfl) rfl rfl _ rfl rfl ⟨_, rfl, rfl⟩
theorem tyOk197 : TyOk Tryz.prog 197 ty197 := .of _ _ rfl rfl rfl rfl rfl (.inl rfl) rfl rfl _ rfl rfl ⟨_, rfl, rfl⟩
theorem tyOk203 : TyOk Tryz.prog 203 ty203 := .of _ _ rfl rfl rfl rfl rfl (.inr rfl) rfl rfl _ rfl rfl rfl
theorem tyOk222 : TyOk Tryz.prog 222 ty222 := .of _ _ rfl rfl rfl rfl rfl (.inr rfl) rfl rfl _ rfl rfl rfl
theorem tyOk223 : TyOk Tryz.prog 223 ty223 := .of _ _ rfl rfl rfl rfl rfl (.inr rfl) rfl rfl _ rfl rfl rfl
theorem tyOk225 : TyOk Tryz.prog 225 ty225 := .of _ _ rfl rfl rfl rfl rfl (.inr rfl) rfl rfl _ rfl rfl rfl
theorem tyOk226 : TyOk Tryz.prog 226 ty226 := .of _ _ rfl rfl rfl rfl rfl (.inr rfl) rfl rfl _ rfl rfl rfl
theorem sJ : g5 Tryz.prog tau := iZ ⟨tyOk3, tyOk4, tyOk66, tyOk25, tyOk2, tyOk5, tyOk6, tyOk7, tyOk8, tyOk9, tyOk10, tyOk11, tyOk12, tyOk13, tyOk14, tyOk20, tyOk21, tyOk22, tyOk23, tyOk24, tyOk27, tyOk31, tyOk32, tyOk33, tyOk38, tyOk39, tyOk40, tyOk48, tyOk49, tyOk50, tyOk51, tyOk54, tyOk55, tyOk56, tyOk65, tyOk74, tyOk84, tyOk85, tyOk95, tyOk96, tyOk101, tyOk102, tyOk104, tyOk105, tyOk107, tyOk108, tyOk113, tyOk114, tyOk126, tyOk129, tyOk132, tyOk139, tyOk171, tyOk172, tyOk188, tyOk196, tyOk197, tyOk203, tyOk222, tyOk223, tyOk225, tyOk226, trivial⟩
theorem sR : Tryz.prog.follows .mixedOrders = true := rfl
end Vg
namespace Go.Proofs
open Go.Shelf
def Tryz.lays106_ren : Go.Shelf.Ren := ⟨fun | 106 => 216 | 213 => 219 | 265 => 220 | n => n, fun | 9 => 9 | 3 => 3 | n => n, fun | n => n⟩
theorem Tryz.lays106 : Go.Proofs.Lays.n106 Tryz.prog Tryz.lays106_ren := {
  mixed := by kernel_rfl
  f106 := Tryz.func216.trans (congrArg some (by kernel_rfl))
  f213 := Tryz.func219.trans (congrArg some (by kernel_rfl))
  f265 := Tryz.func220.trans (congrArg some (by kernel_rfl))
  t3 := Tryz.underlying3
  a3 := Tryz.isAgg3
  z3 := Tryz.sizeOf3
  v3 := Tryz.zeroValue3
  t9 := Tryz.underlying9
  a9 := Tryz.isAgg9
  z9 := Tryz.sizeOf9
  v9 := Tryz.zeroValue9 }
end Go.Proofs
namespace Vg
open Go Go.Proofs
set_option maxRecDepth 100000
set_option maxHeartbeats 40000000
theorem and_of {a b : Prop} (hb : b) (ha : a) : a ∧ b := ⟨ha, hb⟩
theorem n0 {P : Program} {τ : Tys} {S : AState} {blk : Nat → Option Blk} {dst : Option Nat} {g : Nat} {Ts Ts' : List Nat} {vs vs' vs'' : List AV} {K : AV → Prop} {K' K'' : AState → Prop} {Z : Prop} (h : eD P τ blk g Ts vs K) :
    eD P τ blk g Ts vs K ∨ wE P τ S dst g Ts' vs' K' ∨ gG P S dst g vs'' K'' ∨ Z := .inl h
theorem o8 {P : Program} {τ : Tys} {S : AState} {blk : Nat → Option Blk} {dst : Option Nat} {g : Nat} {Ts Ts' : List Nat} {vs vs' vs'' : List AV} {K : AV → Prop} {K' K'' : AState → Prop} {Z : Prop} (h : wE P τ S dst g Ts' vs' K') :
    eD P τ blk g Ts vs K ∨ wE P τ S dst g Ts' vs' K' ∨ gG P S dst g vs'' K'' ∨ Z := .inr (.inl h)
theorem noTF {b : Bool} {p : Prop} (h : b = false) (h2 : b = true) : p := Bool.noConfusion (h.symm.trans h2)
theorem a6 {P : Program} {τ : Tys} {S : AState} {blk : Nat → Option Blk} {dst : Option Nat} {g : Nat} {Ts Ts' : List Nat} {vs vs' vs'' : List AV} {K : AV → Prop} {K' K'' : AState → Prop} {Z : Prop} (h : gG P S dst g vs'' K'') :
    eD P τ blk g Ts vs K ∨ wE P τ S dst g Ts' vs' K' ∨ gG P S dst g vs'' K'' ∨ Z := .inr (.inr (.inl h))
theorem t0 {P : Program} {τ : Tys} {S : AState} {blk : Nat → Option Blk} {dst : Option Nat} {g : Nat} {Ts Ts' : List Nat} {vs vs' vs'' : List AV} {K : AV → Prop} {K' K'' : AState → Prop} {Z : Prop} (h : Z) :
    eD P τ blk g Ts vs K ∨ wE P τ S dst g Ts' vs' K' ∨ gG P S dst g vs'' K'' ∨ Z := .inr (.inr (.inr h))
theorem wrap_id {n : Int} (h1 : -9223372036854775808 ≤ n) (h2 : n < 9223372036854775808) : IntKind.i64.wrap n = n := by
  simp only [IntKind.wrap]
  have e1 : (2 : Int) ^ IntKind.i64.bits = 18446744073709551616 := rfl
  have e2 : (2 : Int) ^ (IntKind.i64.bits - 1) = 9223372036854775808 := rfl
  have e3 : IntKind.i64.signed = true := rfl
  simp only [e1, e2, e3]
  have h3 := Int.emod_emod_of_dvd n (Int.dvd_refl 18446744073709551616)
  split <;> rename_i hc <;> simp at hc <;> omega
theorem wrap_succ {k m : Nat} (h : (k : Int) < m) (hm : m ≤ maxLen) : IntKind.i64.wrap ((k : Int) + 1) = ((k + 1 : Nat) : Int) := by
  have : maxLen = 9223372036854775807 := rfl
  rw [wrap_id] <;> omega
theorem sp_T {A B : Prop} (h : A) : (true = true → A) ∧ (true = false → B) := ⟨fun _ => h, fun h => by cases h⟩
theorem sp_F {A B : Prop} (h : B) : (false = true → A) ∧ (false = false → B) := ⟨fun h => (by cases h), fun _ => h⟩
theorem sp_T' {A B : Prop} (h : A) : (true = false → B) ∧ (true = true → A) := ⟨fun h => (by cases h), fun _ => h⟩
theorem sp_F' {A B : Prop} (h : B) : (false = false → B) ∧ (false = true → A) := ⟨fun _ => h, fun h => by cases h⟩
theorem sp_d {p A B : Prop} [Decidable p] (h1 : p → A) (h2 : ¬ p → B) : (decide p = true → A) ∧ (decide p = false → B) := ⟨fun h => h1 (of_decide_eq_true h), fun h => h2 (of_decide_eq_false h)⟩
theorem sp_d' {p A B : Prop} [Decidable p] (h1 : ¬ p → A) (h2 : p → B) : (decide p = false → A) ∧ (decide p = true → B) := ⟨fun h => h1 (of_decide_eq_false h), fun h => h2 (of_decide_eq_true h)⟩
theorem sp_b {b : Bool} {A B : Prop} (h1 : b = true → A) (h2 : b = false → B) : (b = true → A) ∧ (b = false → B) := ⟨h1, h2⟩
theorem sp_b' {b : Bool} {A B : Prop} (h1 : b = false → A) (h2 : b = true → B) : (b = false → A) ∧ (b = true → B) := ⟨h1, h2⟩
theorem sp_nb {b : Bool} {A B : Prop} (h1 : b = false → A) (h2 : b = true → B) : ((!b) = true → A) ∧ ((!b) = false → B) := ⟨fun h => h1 (by simpa using h), fun h => h2 (by simpa using h)⟩
theorem sp_nb' {b : Bool} {A B : Prop} (h1 : b = true → A) (h2 : b = false → B) : ((!b) = false → A) ∧ ((!b) = true → B) := ⟨fun h => h1 (by simpa using h), fun h => h2 (by simpa using h)⟩
theorem bnd2 {a b c d : Int} (h1 : a ≤ b) (h2 : c < d) : a ≤ b ∧ c < d := ⟨h1, h2⟩
theorem bnd2' {a b c d : Int} (h1 : a ≤ b) (h2 : c ≤ d) : a ≤ b ∧ c ≤ d := ⟨h1, h2⟩
theorem bndN {a b c d : Nat} (h1 : a ≤ b) (h2 : c ≤ d) : a ≤ b ∧ c ≤ d := ⟨h1, h2⟩
theorem o0 {σ : List (Nat × Option Nat)} {d' d : Dat} (h : d' = d) : wk σ (.dat d') (.dat d) := h
theorem j0 {σ : List (Nat × Option Nat)} {d' d : Dat} (h : d' = d) : wkC σ (.dat d') (.dat d) := h
theorem wH {α : Type} {f : α → Bool} {l : List α} {k : Nat} (d : α) (h : (k : Int) < l.length) : (l.take (k + 1)).all f = ((l.take k).all f && f (l.getD k d)) := by
  have h' : k < l.length := by omega
  rw [List.take_succ_eq_append_getElem h', List.all_append]
  simp [List.getD_eq_getElem?_getD, h']
theorem kJ {α : Type} {f : α → Bool} {l : List α} {k : Nat} {d : α} (h : (k : Int) < l.length) (hf : f (l.getD k d) = false) : l.all f = false := by
  have h' : k < l.length := by omega
  simp only [List.getD_eq_getElem?_getD, List.getElem?_eq_getElem h', Option.getD_some] at hf
  exact List.all_eq_false.2 ⟨l[k], List.getElem_mem h', by simp [hf]⟩
theorem nL {α : Type} {f : α → Bool} {l : List α} {k : Nat} (h : ¬ (k : Int) < l.length) (hf : (l.take k).all f = true) : l.all f = true := by
  rwa [List.take_of_length_le omG] at hf
theorem sp_e {a b : Int} {A B : Prop} (h1 : a = b → A) (h2 : ¬ a = b → B) : ((a == b) = true → A) ∧ ((a == b) = false → B) := ⟨fun h => h1 (by simpa using h), fun h => h2 (by simpa using h)⟩
theorem sp_e' {a b : Int} {A B : Prop} (h1 : ¬ a = b → A) (h2 : a = b → B) : ((a == b) = false → A) ∧ ((a == b) = true → B) := ⟨fun h => h1 (by simpa using h), fun h => h2 (by simpa using h)⟩
theorem sp_n {a b : Int} {A B : Prop} (h1 : ¬ a = b → A) (h2 : a = b → B) : ((a != b) = true → A) ∧ ((a != b) = false → B) := ⟨fun h => h1 (by simpa using h), fun h => h2 (by simpa using h)⟩
theorem sp_n' {a b : Int} {A B : Prop} (h1 : a = b → A) (h2 : ¬ a = b → B) : ((a != b) = false → A) ∧ ((a != b) = true → B) := ⟨fun h => h1 (by simpa using h), fun h => h2 (by simpa using h)⟩
theorem sp_eF {a b : Int} {A B : Prop} (hn : ¬ a = b) (h2 : B) : ((a == b) = true → A) ∧ ((a == b) = false → B) := ⟨fun h => (hn (by simpa using h)).elim, fun _ => h2⟩
theorem sp_eT {a : Int} {A B : Prop} (h1 : A) : ((a == a) = true → A) ∧ ((a == a) = false → B) := ⟨fun _ => h1, fun h => (by simp at h)⟩
theorem sp_dF {p A B : Prop} [Decidable p] (hn : ¬ p) (h2 : B) : (decide p = true → A) ∧ (decide p = false → B) := ⟨fun h => (hn (of_decide_eq_true h)).elim, fun _ => h2⟩
theorem sp_dT {p A B : Prop} [Decidable p] (hn : p) (h2 : A) : (decide p = true → A) ∧ (decide p = false → B) := ⟨fun _ => h2, fun h => (of_decide_eq_false h hn).elim⟩
/-! ### steps that the walks share: what a step leaves is handed on as it is found (the default argument finds it) -/
structure Bx (R : Prop) : Prop where
  u : R
structure SplS (p q A B : Prop) : Prop where
  l : p → A
  r : q → B
section
variable {A B : Prop}
theorem ss_d {p : Prop} [Decidable p] (h : SplS p (¬ p) A B) : (decide p = true → A) ∧ (decide p = false → B) := sp_d h.l h.r
theorem ss_d' {p : Prop} [Decidable p] (h : SplS (¬ p) p A B) : (decide p = false → A) ∧ (decide p = true → B) := sp_d' h.l h.r
theorem ss_e {a b : Int} (h : SplS (a = b) (¬ a = b) A B) : ((a == b) = true → A) ∧ ((a == b) = false → B) := sp_e h.l h.r
theorem ss_e' {a b : Int} (h : SplS (¬ a = b) (a = b) A B) : ((a == b) = false → A) ∧ ((a == b) = true → B) := sp_e' h.l h.r
theorem ss_n {a b : Int} (h : SplS (¬ a = b) (a = b) A B) : ((a != b) = true → A) ∧ ((a != b) = false → B) := sp_n h.l h.r
theorem ss_n' {a b : Int} (h : SplS (a = b) (¬ a = b) A B) : ((a != b) = false → A) ∧ ((a != b) = true → B) := sp_n' h.l h.r
theorem ss_nb {b : Bool} (h : SplS (b = false) (b = true) A B) : ((!b) = true → A) ∧ ((!b) = false → B) := sp_nb h.l h.r
theorem ss_nb' {b : Bool} (h : SplS (b = true) (b = false) A B) : ((!b) = false → A) ∧ ((!b) = true → B) := sp_nb' h.l h.r
theorem ss_b {b : Bool} (h : SplS (b = true) (b = false) A B) : (b = true → A) ∧ (b = false → B) := sp_b h.l h.r
theorem ss_b' {b : Bool} (h : SplS (b = false) (b = true) A B) : (b = false → A) ∧ (b = true → B) := sp_b' h.l h.r
end
theorem f1 {A B G : Prop} (a : Bx A) (b : Bx B) (f : Bx A → Bx B → G := by
    intro a b
    first
    | (with_reducible first | exact bnd2 a.u b.u | exact bnd2' a.u b.u | exact bndN a.u b.u)
    | ((with_reducible refine and_of ?_ b.u); (conv => whnf); exact a.u)) : G := f a b
theorem zV {X : AV} {Y : List Blk} {Q : AV → List Blk → Prop} (h : Q X Y) : ∀ res B, (res = X ∧ B = Y) → Q res B := fun _ _ ⟨a, b⟩ => by subst a b; exact h
theorem r0 {G : Prop} (x : G := by
    first
    | exact Bool.noConfusion (Eq.trans (Eq.symm h) (show _ = true by with_reducible assumption))
    | exact Bool.noConfusion (Eq.trans (Eq.symm (show _ = false by with_reducible assumption)) h)
    | ((fail_if_success (have _x : @Eq Bool _ _ := h)); contradiction)) : G := x
theorem ctN {G : Prop} (x : G := by
    first
    | exact Bool.noConfusion (Eq.trans (Eq.symm h) (show _ = true by with_reducible assumption))
    | exact Bool.noConfusion (Eq.trans (Eq.symm (show _ = false by with_reducible assumption)) h)
    | ((fail_if_success (have _x : @Eq Bool _ _ := h)); with_reducible contradiction)) : G := x
theorem oV {f : FuncId} {fn : Func} {c : Code} {args : List AV} {X : AV} {R : Prop} (hf : Tryz.prog.funcs[f]? = some fn) (k : Bx R) (h1 : (fn.name == "runtime.NumGoroutine") = false := by exact rfl)
    (hb : fn.body = some c := by exact rfl) (hn : Nat.ble args.length fn.ntmps = true := by exact rfl)
    (h : Bx R → y9 Tryz.prog tau c ⟨fn.ntmps, fun t => args.getD t .any, fun _ => none⟩ (bO tau fn false fun res B' => frz B' X res) := by
      intro k
      (conv => whnf)
      exact k.u) : CallsV Tryz.prog f args X := CallsV.of_awp sJ sR hf h1 hb hn (h k)
theorem oF {f : FuncId} {fn : Func} {c : Code} {args : List AV} {fr : Bool} {Q : AV → List Blk → Prop} {R : Prop} (hf : Tryz.prog.funcs[f]? = some fn) (k : Bx R) (h1 : (fn.name == "runtime.NumGoroutine") = false := by exact rfl)
    (hb : fn.body = some c := by exact rfl) (hn : Nat.ble args.length fn.ntmps = true := by exact rfl)
    (h : Bx R → y9 Tryz.prog tau c ⟨fn.ntmps, fun t => args.getD t .any, fun _ => none⟩ (bO tau fn fr Q) := by
      intro k
      (conv => whnf)
      exact k.u) : CallsF Tryz.prog f args fr Q := CallsF.of_awp sJ sR hf h1 hb hn (h k)
theorem oG {f : FuncId} {fn : Func} {c : Code} {args : List AV} {Bg : List Blk} {m : Nat} {Q : AV → List Blk → Prop} {R : Prop} (hf : Tryz.prog.funcs[f]? = some fn) (k : Bx R) (h1 : (fn.name == "runtime.NumGoroutine") = false := by exact rfl)
    (hb : fn.body = some c := by exact rfl) (hn : (Nat.ble args.length fn.ntmps && Nat.ble m Bg.length) = true := by exact rfl)
    (h : Bx R → y9 Tryz.prog tau c ⟨fn.ntmps, fun t => (args.getD t .any).ren Bg.length 900000, tH Bg⟩ (gpost tau fn m Q) := by
      intro k
      (conv => whnf)
      exact k.u) : CallsG Tryz.prog f args Bg m Q := CallsG.of_awp sJ sR hf h1 hb hn (h k)
abbrev KT := AX → AState → Prop
theorem st0 {R G : Prop} (k : Bx R) (f : Bx R → G := by
    intro k
    first | ((with_reducible first | refine Alt.l ?_ | refine sp_T ?_ | refine sp_F ?_ | refine sp_T' ?_ | refine sp_F' ?_); (conv => whnf); exact k.u) | ((with_reducible refine sp_dF ?_ ?_); decide; (conv => whnf); exact k.u) | ((with_reducible refine sp_dT ?_ ?_); decide; (conv => whnf); exact k.u) | ((with_reducible first | refine ss_d ?_ | refine ss_d' ?_); exact k.u) | ((with_reducible refine sp_eF ?_ ?_); decide; (conv => whnf); exact k.u) | ((with_reducible refine sp_eT ?_); (conv => whnf); exact k.u) | ((with_reducible first | refine ss_e ?_ | refine ss_e' ?_ | refine ss_n ?_ | refine ss_n' ?_ | refine ss_nb ?_ | refine ss_nb' ?_ | refine ss_b ?_ | refine ss_b' ?_); exact k.u) | (refine ⟨(rfl : cA _ = true), rfl, ?_⟩; first | ((conv => whnf); exact k.u) | exact k.u) | ((with_reducible show k7 _ _ _ _ _ _); (conv => whnf); exact k.u)) : G := f k
theorem m4 {R G : Prop} (k : Bx R) (f : Bx R → G := by
    intro k
    (conv => whnf)
    exact k.u) : G := f k
theorem f5 {G : Prop} (x : G := by contradiction) : G := x
theorem ctR {G : Prop} (x : G := by
    first | exact Bool.noConfusion (Eq.trans (Eq.symm h) (show _ = true by with_reducible assumption)) | exact Bool.noConfusion (Eq.trans (Eq.symm (show _ = false by with_reducible assumption)) h)) : G := x
def inP (n lo hi : Int) : Bool := decide (lo ≤ n) && decide (n ≤ hi)
def b9 (n : Int) : Bool := inP n 0 3
def wordP (w a : Int) : Bool := inP w 1 16 && inP a 0 (2 ^ w.toNat - 1)
theorem wJ {w : Int} (h : inP w 1 16 = true) : IntKind.i64.wrap (1 * 2 ^ min w.toNat IntKind.i64.bits) = 2 ^ w.toNat := by
  have h' : w.toNat < 17 := by simp [inP] at h; omega
  revert h'
  generalize w.toNat = k
  intro h
  have : ∀ k < 17, IntKind.i64.wrap (1 * 2 ^ min k IntKind.i64.bits) = 2 ^ k := by decide
  exact this k h
theorem uw {w : Int} (h : inP w 1 16 = true) : IntKind.u64.wrap w = w := by
  simp [inP] at h
  have h' : w.toNat < 17 := by omega
  have e : w = (w.toNat : Int) := by omega
  rw [e]
  revert h'
  generalize w.toNat = k
  intro h
  have : ∀ k < 17, IntKind.u64.wrap ((k : Nat) : Int) = k := by decide
  exact this k h
theorem top1 {w : Int} (h : inP w 1 16 = true) : IntKind.i64.wrap (2 ^ w.toNat - 1) = 2 ^ w.toNat - 1 := by
  have h' : w.toNat < 17 := by simp [inP] at h; omega
  revert h'
  generalize w.toNat = k
  intro h
  have : ∀ k < 17, IntKind.i64.wrap ((2 : Int) ^ k - 1) = 2 ^ k - 1 := by decide
  exact this k h
theorem s_l01In (n lo hi : Int) : CallsV Tryz.prog 38 [.dat (.i n), .dat (.i lo), .dat (.i hi)] (.dat (.bool (inP n lo hi))) := by
  refine oV Tryz.func38 ⟨?_⟩
  repeat' (first | ((with_reducible refine fun (K1 : KT) hK => ?_); refine m4 ⟨?_⟩) | ((with_reducible show K1 _ _); subst hK; conv => whnf) | (with_reducible exact rfl) | refine st0 ⟨?_⟩ | ((with_reducible refine SplS.mk (fun h => ?_) (fun h => ?_)) <;> first | exact f5 | (subst h; conv => whnf) | (conv => whnf)) | ((with_reducible refine SplS.mk (fun h => ?_) (fun h => ?_)) <;> first | exact f5 | (conv => whnf)) | (intro h; conv => whnf))
  all_goals repeat clear hK K1
  all_goals simp [inP, *]
theorem qew (n : Int) : CallsV Tryz.prog 142 [.dat (.i n)] (.dat (.bool (b9 n))) := by
  refine oV Tryz.func142 ⟨?_⟩
  repeat' (first | ((with_reducible refine fun (K1 : KT) hK => ?_); refine m4 ⟨?_⟩) | ((with_reducible show K1 _ _); subst hK; conv => whnf) | (with_reducible exact rfl) | refine st0 ⟨?_⟩ | ((with_reducible refine SplS.mk (fun h => ?_) (fun h => ?_)) <;> first | exact f5 | (subst h; conv => whnf) | (conv => whnf)) | ((with_reducible refine SplS.mk (fun h => ?_) (fun h => ?_)) <;> first | exact f5 | (conv => whnf)) | ((with_reducible first | refine n0 (g := 38) ?_ | show Exists _); refine ⟨_, s_l01In .., rfl, ?_⟩; rotate_right; conv => whnf) | (intro h; conv => whnf))
  all_goals repeat clear hK K1
  all_goals first | rfl | assumption | exact Bool.noConfusion (h.symm.trans hp) | (simp_all []; done) | grind [] | (simp_all []; omega)
theorem qD (w a : Int) : CallsV Tryz.prog 111 [.dat (.i w), .dat (.i a)] (.dat (.bool (wordP w a))) := by
  refine oV Tryz.func111 ⟨?_⟩
  repeat' (first | ((with_reducible refine fun (K1 : KT) hK => ?_); refine m4 ⟨?_⟩) | ((with_reducible show K1 _ _); subst hK; conv => whnf) | (with_reducible exact rfl) | refine st0 ⟨?_⟩ | ((with_reducible refine SplS.mk (fun h => ?_) (fun h => ?_)) <;> first | exact f5 | (subst h; conv => whnf) | (conv => whnf)) | ((with_reducible refine SplS.mk (fun h => ?_) (fun h => ?_)) <;> first | exact f5 | (conv => whnf)) | refine f1 ⟨?_⟩ ⟨?_⟩ | ((with_reducible first | refine n0 (g := 38) ?_ | show Exists _); refine ⟨_, s_l01In .., rfl, ?_⟩; rotate_right; conv => whnf) | (intro h; conv => whnf))
  all_goals repeat clear hK K1
  · have h1 := h
    simp only [wordP, h1, wJ h1, top1 h1, Bool.true_and]
  · have h1 := h
    simp [inP] at h1; omega
  · simp only [wordP, h, Bool.false_and]
theorem qg7 (w a : Int) : CallsV Tryz.prog 100 [.dat (.i w), .dat (.i a)] (.dat (.bool (inP w 2 8 && inP a 1 40))) := by
  refine oV Tryz.func100 ⟨?_⟩
  repeat' (first | ((with_reducible refine fun (K1 : KT) hK => ?_); refine m4 ⟨?_⟩) | ((with_reducible show K1 _ _); subst hK; conv => whnf) | (with_reducible exact rfl) | refine st0 ⟨?_⟩ | ((with_reducible refine SplS.mk (fun h => ?_) (fun h => ?_)) <;> first | exact f5 | (subst h; conv => whnf) | (conv => whnf)) | ((with_reducible refine SplS.mk (fun h => ?_) (fun h => ?_)) <;> first | exact f5 | (conv => whnf)) | (intro h; conv => whnf))
  all_goals repeat clear hK K1
  all_goals first | rfl | assumption | exact Bool.noConfusion (h.symm.trans hp) | (simp_all [inP]; done) | grind [inP] | (simp_all [inP]; omega)
theorem xI (w : Int) : CallsV Tryz.prog 128 [.dat (.i w)] (.dat (.bool (inP w 1 16))) := by
  refine oV Tryz.func128 ⟨?_⟩
  repeat' (first | ((with_reducible refine fun (K1 : KT) hK => ?_); refine m4 ⟨?_⟩) | ((with_reducible show K1 _ _); subst hK; conv => whnf) | (with_reducible exact rfl) | refine st0 ⟨?_⟩ | ((with_reducible refine SplS.mk (fun h => ?_) (fun h => ?_)) <;> first | exact f5 | (subst h; conv => whnf) | (conv => whnf)) | ((with_reducible refine SplS.mk (fun h => ?_) (fun h => ?_)) <;> first | exact f5 | (conv => whnf)) | (intro h; conv => whnf))
  all_goals repeat clear hK K1
  all_goals first | rfl | assumption | exact Bool.noConfusion (h.symm.trans hp) | (simp_all [inP]; done) | grind [inP] | (simp_all [inP]; omega)
theorem qhi (w : Int) : CallsV Tryz.prog 130 [.dat (.i w)] (.dat (.bool (inP w 3 16))) := by
  refine oV Tryz.func130 ⟨?_⟩
  repeat' (first | ((with_reducible refine fun (K1 : KT) hK => ?_); refine m4 ⟨?_⟩) | ((with_reducible show K1 _ _); subst hK; conv => whnf) | (with_reducible exact rfl) | refine st0 ⟨?_⟩ | ((with_reducible refine SplS.mk (fun h => ?_) (fun h => ?_)) <;> first | exact f5 | (subst h; conv => whnf) | (conv => whnf)) | ((with_reducible refine SplS.mk (fun h => ?_) (fun h => ?_)) <;> first | exact f5 | (conv => whnf)) | (intro h; conv => whnf))
  all_goals repeat clear hK K1
  all_goals first | rfl | assumption | exact Bool.noConfusion (h.symm.trans hp) | (simp_all [inP]; done) | grind [inP] | (simp_all [inP]; omega)
theorem i_isReg (w : Int) : CallsV Tryz.prog 129 [.dat (.i w)] (.dat (.bool (b9 w))) := by
  refine oV Tryz.func129 ⟨?_⟩
  repeat' (first | ((with_reducible refine fun (K1 : KT) hK => ?_); refine m4 ⟨?_⟩) | ((with_reducible show K1 _ _); subst hK; conv => whnf) | (with_reducible exact rfl) | refine st0 ⟨?_⟩ | ((with_reducible refine SplS.mk (fun h => ?_) (fun h => ?_)) <;> first | exact f5 | (subst h; conv => whnf) | (conv => whnf)) | ((with_reducible refine SplS.mk (fun h => ?_) (fun h => ?_)) <;> first | exact f5 | (conv => whnf)) | (intro h; conv => whnf))
  all_goals repeat clear hK K1
  all_goals first | rfl | assumption | exact Bool.noConfusion (h.symm.trans hp) | (simp_all [inP, b9]; done) | grind [inP, b9] | (simp_all [inP, b9]; omega)
theorem iD (w a : Int) : CallsV Tryz.prog 101 [.dat (.i w), .dat (.i a)] (.dat (.bool (wordP w a))) := by
  refine oV Tryz.func101 ⟨?_⟩
  repeat' (first | ((with_reducible refine fun (K1 : KT) hK => ?_); refine m4 ⟨?_⟩) | ((with_reducible show K1 _ _); subst hK; conv => whnf) | (with_reducible exact rfl) | refine st0 ⟨?_⟩ | ((with_reducible refine SplS.mk (fun h => ?_) (fun h => ?_)) <;> first | exact f5 | (subst h; conv => whnf) | (conv => whnf)) | ((with_reducible refine SplS.mk (fun h => ?_) (fun h => ?_)) <;> first | exact f5 | (conv => whnf)) | refine f1 ⟨?_⟩ ⟨?_⟩ | ((with_reducible first | refine n0 (g := 128) ?_ | show Exists _); refine ⟨_, xI .., rfl, ?_⟩; rotate_right; conv => whnf) | (intro h; conv => whnf))
  all_goals repeat clear hK K1
  · rename_i h1
    have e := uw h1
    have e2 := wJ h1
    have ha : 0 ≤ a := h
    rw [e, e2]
    simp only [wordP, h1, Bool.true_and]
    simp only [inP, decide_eq_true ha, Bool.true_and]
    exact congrArg Dat.bool (decide_eq_decide.2 omG)
  · rename_i h1
    rw [uw h1]
    simp [inP] at h1; omega
  · have ha : ¬ 0 ≤ a := h
    simp [wordP, inP, ha]
  · simp only [wordP, h, Bool.false_and]
def d5 (i : V.Ins) (w size : Int) : Bool :=
  if i.op = 1 then b9 i.a && wordP w i.b && decide (i.c = 0)
  else if i.op = 2 ∨ i.op = 7 ∨ i.op = 8 then b9 i.a && b9 i.b && decide (i.c = 0)
  else if i.op = 3 then b9 i.a && b9 i.b && inP i.c 3 16
  else if i.op = 4 ∨ i.op = 5 ∨ i.op = 6 ∨ i.op = 13 then b9 i.a && decide (i.b = 0) && decide (i.c = 0)
  else if i.op = 9 ∨ i.op = 11 then decide (i.a = 0) && inP i.b 0 size && decide (i.c = 0)
  else if i.op = 10 then b9 i.a && inP i.b 0 size && decide (i.c = 0)
  else if i.op = 12 ∨ i.op = 14 then decide (i.a = 0) && decide (i.b = 0) && decide (i.c = 0)
  else false
theorem qex (op a b c w size : Int) : CallsV Tryz.prog 112 [.agg [.dat (.i op), .dat (.i a), .dat (.i b), .dat (.i c)], .dat (.i w), .dat (.i size)] (.dat (.bool (d5 ⟨op, a, b, c⟩ w size))) := by
  refine oV Tryz.func112 ⟨?_⟩
  repeat' (first | ((with_reducible refine fun (K1 : KT) hK => ?_); refine m4 ⟨?_⟩) | ((with_reducible show K1 _ _); subst hK; conv => whnf) | (with_reducible exact rfl) | refine st0 ⟨?_⟩ | ((with_reducible refine SplS.mk (fun h => ?_) (fun h => ?_)) <;> first | exact f5 | (subst h; conv => whnf) | (conv => whnf)) | ((with_reducible first | refine n0 (g := 38) ?_ | show Exists _); refine ⟨_, s_l01In .., rfl, ?_⟩; rotate_right; conv => whnf) | ((with_reducible first | refine n0 (g := 142) ?_ | show Exists _); refine ⟨_, qew .., rfl, ?_⟩; rotate_right; conv => whnf) | ((with_reducible first | refine n0 (g := 111) ?_ | show Exists _); refine ⟨_, qD .., rfl, ?_⟩; rotate_right; conv => whnf) | (intro h; conv => whnf))
  all_goals repeat clear hK K1
  all_goals first | (simp [d5, *]; done) | (simp [d5, *]; rfl)
theorem i_insOk (op a b c w size : Int) : CallsV Tryz.prog 102 [.agg [.dat (.i op), .dat (.i a), .dat (.i b), .dat (.i c)], .dat (.i w), .dat (.i size)] (.dat (.bool (d5 ⟨op, a, b, c⟩ w size))) := by
  refine oV Tryz.func102 ⟨?_⟩
  repeat' (first | ((with_reducible refine fun (K1 : KT) hK => ?_); refine m4 ⟨?_⟩) | ((with_reducible show K1 _ _); subst hK; conv => whnf) | (with_reducible exact rfl) | refine st0 ⟨?_⟩ | ((with_reducible refine SplS.mk (fun h => ?_) (fun h => ?_)) <;> first | exact f5 | ((fail_if_success (have _x : @Eq Bool _ _ := h)); subst h; conv => whnf) | (conv => whnf)) | ((with_reducible first | refine n0 (g := 129) ?_ | show Exists _); refine ⟨_, i_isReg .., rfl, ?_⟩; rotate_right; conv => whnf) | ((with_reducible first | refine n0 (g := 130) ?_ | show Exists _); refine ⟨_, qhi .., rfl, ?_⟩; rotate_right; conv => whnf) | ((with_reducible first | refine n0 (g := 101) ?_ | show Exists _); refine ⟨_, iD .., rfl, ?_⟩; rotate_right; conv => whnf) | (intro h; conv => whnf))
  all_goals repeat clear hK K1
  all_goals first | (simp [d5, inP, *]; done) | (simp [d5, *]; rfl)
def y4 (p : V.Prog) : Bool :=
  inP p.w 2 8 && inP p.mem 1 6 && wordP p.w p.mem && inP p.inn 0 3 && inP p.code.length 1 40 && p.code.all fun i => d5 i p.w p.code.length
theorem bQ (w mem inn : Int) (code : List V.Ins) : CallsV Tryz.prog 69 [.agg [.dat (.i w), .dat (.i mem), .dat (.i inn), .dat (.seq .inss code)]] (.dat (.bool (y4 ⟨w, mem, inn, code⟩))) := by
  refine oV Tryz.func69 ⟨?_⟩
  repeat' (first | ((with_reducible refine fun (K1 : KT) hK => ?_); refine m4 ⟨?_⟩) | ((with_reducible show K1 _ _); subst hK; conv => whnf) | (with_reducible exact rfl) | refine st0 ⟨?_⟩ | ((with_reducible refine SplS.mk (fun h => ?_) (fun h => ?_)) <;> first | exact f5 | (subst h; conv => whnf) | (conv => whnf)) | refine f1 ⟨?_⟩ ⟨?_⟩ | (refine Exists.intro ({k : Nat // (code.take k).all (fun i => d5 i w code.length) = true}) (Exists.intro (fun ⟨k, hall⟩ => r4 Tryz.f69.ntmps [(1, .ptr 1 0), (37, .dat (.seq .inss code)), (38, .dat (.i code.length)), (39, .dat (.i k))] [(1, .box [.dat (.i w), .dat (.i mem), .dat (.i inn), .dat (.seq .inss code)])]) (Exists.intro (fun ⟨k, hall⟩ => code.length - k) (Exists.intro ⟨0, rfl⟩ (And.intro (SubP.sub (σ := [(1, some 1)]) ⟨⟨rfl, rfl, rfl⟩, ⟨⟨rfl, rfl⟩, o0 ?_, o0 ?_, o0 ?_, trivial⟩, ⟨⟨j0 ?_, j0 ?_, j0 ?_, j0 ?_, trivial⟩, trivial⟩⟩) (fun ⟨k, hall⟩ => ?_))))); rotate_right; conv => whnf) | (refine Exists.intro ⟨k + 1, ?_⟩ (And.intro ?_ (SubP.sub (σ := [(1, some 1)]) ⟨⟨rfl, rfl, rfl⟩, ⟨⟨rfl, rfl⟩, o0 ?_, o0 ?_, o0 ?_, trivial⟩, ⟨⟨j0 ?_, j0 ?_, j0 ?_, j0 ?_, trivial⟩, trivial⟩⟩))) | ((with_reducible first | refine n0 (g := 38) ?_ | show Exists _); refine ⟨_, s_l01In .., rfl, ?_⟩; rotate_right; conv => whnf) | ((with_reducible first | refine n0 (g := 111) ?_ | show Exists _); refine ⟨_, qD .., rfl, ?_⟩; rotate_right; conv => whnf) | ((with_reducible first | refine n0 (g := 112) ?_ | show Exists _); refine ⟨_, qex .., rfl, ?_⟩; rotate_right; conv => whnf) | (intro h; conv => whnf))
  all_goals repeat clear hK K1
  all_goals first | rfl | assumption | exact Bool.noConfusion (h.symm.trans hp) | omega | (dsimp only; omega) | exact congrArg (Dat.int .i64) (wrap_succ (by assumption) (by assumption)).symm | (simp [y4, *]; done) | (rw [wH K.inss.dflt (by assumption), hall]; exact h) | (simp only [y4]; rw [kJ (f := fun i => d5 i w code.length) (by assumption) h, Bool.and_false]) | (simp only [y4]; rw [nL h hall]; simp [*])
theorem qho (w mem inn : Int) (code : List V.Ins) : CallsV Tryz.prog 63 [.agg [.dat (.i w), .dat (.i mem), .dat (.i inn), .dat (.seq .inss code)]] (.dat (.bool (y4 ⟨w, mem, inn, code⟩))) := by
  refine oV Tryz.func63 ⟨?_⟩
  repeat' (first | ((with_reducible refine fun (K1 : KT) hK => ?_); refine m4 ⟨?_⟩) | ((with_reducible show K1 _ _); subst hK; conv => whnf) | (with_reducible exact rfl) | refine st0 ⟨?_⟩ | ((with_reducible refine SplS.mk (fun h => ?_) (fun h => ?_)) <;> first | exact f5 | (subst h; conv => whnf) | (conv => whnf)) | refine f1 ⟨?_⟩ ⟨?_⟩ | (refine Exists.intro ({k : Nat // (code.take k).all (fun i => d5 i w code.length) = true}) (Exists.intro (fun ⟨k, hall⟩ => r4 Tryz.f63.ntmps [(1, .ptr 1 0), (39, .dat (.seq .inss code)), (40, .dat (.i code.length)), (41, .dat (.i k))] [(1, .box [.dat (.i w), .dat (.i mem), .dat (.i inn), .dat (.seq .inss code)])]) (Exists.intro (fun ⟨k, hall⟩ => code.length - k) (Exists.intro ⟨0, rfl⟩ (And.intro (SubP.sub (σ := [(1, some 1)]) ⟨⟨rfl, rfl, rfl⟩, ⟨⟨rfl, rfl⟩, o0 ?_, o0 ?_, o0 ?_, trivial⟩, ⟨⟨j0 ?_, j0 ?_, j0 ?_, j0 ?_, trivial⟩, trivial⟩⟩) (fun ⟨k, hall⟩ => ?_))))); rotate_right; conv => whnf) | (refine Exists.intro ⟨k + 1, ?_⟩ (And.intro ?_ (SubP.sub (σ := [(1, some 1)]) ⟨⟨rfl, rfl, rfl⟩, ⟨⟨rfl, rfl⟩, o0 ?_, o0 ?_, o0 ?_, trivial⟩, ⟨⟨j0 ?_, j0 ?_, j0 ?_, j0 ?_, trivial⟩, trivial⟩⟩))) | ((with_reducible first | refine n0 (g := 100) ?_ | show Exists _); refine ⟨_, qg7 .., rfl, ?_⟩; rotate_right; conv => whnf) | ((with_reducible first | refine n0 (g := 101) ?_ | show Exists _); refine ⟨_, iD .., rfl, ?_⟩; rotate_right; conv => whnf) | ((with_reducible first | refine n0 (g := 102) ?_ | show Exists _); refine ⟨_, i_insOk .., rfl, ?_⟩; rotate_right; conv => whnf) | (intro h; conv => whnf))
  all_goals repeat clear hK K1
  all_goals first | rfl | assumption | exact Bool.noConfusion (h.symm.trans hp) | omega | (dsimp only; omega) | exact congrArg (Dat.int .i64) (wrap_succ (by assumption) (by assumption)).symm | (simp [y4, *]; done) | (rw [wH K.inss.dflt (by assumption), hall]; exact h) | (simp only [y4]; rw [kJ (f := fun i => d5 i w code.length) (by assumption) h, Bool.and_false]) | (simp only [y4]; rw [nL h hall]; clear hall h; simp_all [inP] <;> omega) | (simp_all [y4, inP]; omega) | (simp_all [y4, inP]; done)
theorem zJ {T : Nat} {κ : K} {l l' : List κ.T} {sh : Bool} (h : l = l') : [Blk.row T κ l sh] = [Blk.row T κ l' sh] := by rw [h]
theorem jM {κ : K} {l l' : List κ.T} (h : l = l') : (⟨κ, l⟩ : (κ : K) × List κ.T) = ⟨κ, l'⟩ := by rw [h]
theorem rW {α : Type} {a : List α} {k : Nat} (d z : α) (h : (k : Int) < a.length) : (a.take k ++ List.replicate (a.length - k) z).set k (a.getD k d) = a.take (k + 1) ++ List.replicate (a.length - (k + 1)) z := by
  have h' : k < a.length := by omega
  apply List.ext_getElem?
  intro i
  simp only [List.getElem?_set, List.getElem?_append, List.length_take, List.getElem?_take, List.getElem?_replicate, List.length_append, List.length_replicate, List.getD_eq_getElem?_getD]
  rcases Nat.lt_trichotomy i k with h1 | h1 | h1
  · simp [show ¬ k = i from by omega, show i < min k a.length from by omega, show i < min (k + 1) a.length from by omega, show i < k from h1, show i < k + 1 from by omega]
  · subst h1
    simp [h', show i < min (i + 1) a.length from by omega, show i < min i a.length + (a.length - i) from by omega]
  · simp [show ¬ k = i from by omega, show ¬ i < min k a.length from by omega, show ¬ i < min (k + 1) a.length from by omega]
    have e1 : min k a.length = k := by omega
    have e2 : min (k + 1) a.length = k + 1 := by omega
    simp only [e1, e2]
    by_cases h2 : i - k < a.length - k
    · simp [h2, show i - (k + 1) < a.length - (k + 1) from by omega]
    · simp [h2, show ¬ i - (k + 1) < a.length - (k + 1) from by omega]
theorem vV {α : Type} {a : List α} {k : Nat} {z : α} (h : ¬ (k : Int) < a.length) : a.take k ++ List.replicate (a.length - k) z = a := by
  rw [List.take_of_length_le omG, show a.length - k = 0 from by omega]; simp
theorem wG {α : Type} {a b : List α} {k : Nat} (d : α) (h : (k : Int) < a.length) (hl : a.length = b.length) (hk : a.take k = b.take k) (he : a.getD k d = b.getD k d) : a.take (k + 1) = b.take (k + 1) := by
  have h1 : k < a.length := by omega
  have h2 : k < b.length := by omega
  rw [List.take_succ_eq_append_getElem h1, List.take_succ_eq_append_getElem h2, hk]
  simp only [List.getD_eq_getElem?_getD, List.getElem?_eq_getElem h1, List.getElem?_eq_getElem h2, Option.getD_some] at he
  rw [he]
theorem qgb {α : Type} {a b : List α} {k : Nat} {d : α} (he : ¬ a.getD k d = b.getD k d) : ¬ a = b := fun e => he (by rw [e])
theorem yL {α : Type} {a b : List α} {k : Nat} (h : ¬ (k : Int) < a.length) (hl : a.length = b.length) (hk : a.take k = b.take k) : a = b := by
  rwa [List.take_of_length_le omG, List.take_of_length_le omG] at hk
theorem l_toIns (op a b c : Int) : CallsV Tryz.prog 82 [.agg [.dat (.i op), .dat (.i a), .dat (.i b), .dat (.i c)]] (.agg [.dat (.i op), .dat (.i a), .dat (.i b), .dat (.i c)]) := by
  refine oV Tryz.func82 ⟨?_⟩
  repeat' (first | ((with_reducible refine fun (K1 : KT) hK => ?_); refine m4 ⟨?_⟩) | ((with_reducible show K1 _ _); subst hK; conv => whnf) | (with_reducible exact rfl) | refine st0 ⟨?_⟩ | ((with_reducible refine SplS.mk (fun h => ?_) (fun h => ?_)) <;> first | exact f5 | (subst h; conv => whnf) | (conv => whnf)) | refine f1 ⟨?_⟩ ⟨?_⟩ | (intro h; conv => whnf))
  all_goals repeat clear hK K1
  all_goals first | rfl | assumption | exact Bool.noConfusion (h.symm.trans hp) | (simp_all []; done) | grind [] | (simp_all []; omega)
theorem lZ (a : List V.Ins) (hl : a.length ≤ 1048576) : CallsF Tryz.prog 44 [.dat (.seq .inss a)] true (fun res B => res = .row 0 ∧ B = [.row 66 .inss a false]) := by
  refine oF Tryz.func44 ⟨?_⟩
  repeat' (first | ((with_reducible refine fun (K1 : KT) hK => ?_); refine m4 ⟨?_⟩) | ((with_reducible show K1 _ _); subst hK; conv => whnf) | (with_reducible exact rfl) | refine st0 ⟨?_⟩ | ((with_reducible refine SplS.mk (fun h => ?_) (fun h => ?_)) <;> first | exact f5 | (subst h; conv => whnf) | (conv => whnf)) | refine f1 ⟨?_⟩ ⟨?_⟩ | (refine Exists.intro ({k : Nat // k ≤ a.length}) (Exists.intro (fun ⟨k, hk⟩ => r4 Tryz.f44.ntmps [(0, .dat (.seq .inss a)), (3, .row 7), (4, .dat (.i k))] [(7, .row 66 .inss (a.take k ++ List.replicate (a.length - k) ⟨0, 0, 0, 0⟩) false)]) (Exists.intro (fun ⟨k, hk⟩ => a.length - k) (Exists.intro ⟨0, Nat.zero_le _⟩ (And.intro (SubP.sub (σ := [(7, some 7)]) ⟨⟨rfl, rfl, rfl⟩, ⟨o0 ?_, rfl, o0 ?_, trivial⟩, ⟨⟨⟨rfl, rfl⟩, ?_⟩, trivial⟩⟩) (fun ⟨k, hk⟩ => ?_))))); rotate_right; conv => whnf) | (refine Exists.intro ⟨k + 1, ?_⟩ (And.intro ?_ (SubP.sub (σ := [(7, some 7)]) ⟨⟨rfl, rfl, rfl⟩, ⟨o0 ?_, rfl, o0 ?_, trivial⟩, ⟨⟨⟨rfl, rfl⟩, ?_⟩, trivial⟩⟩))) | ((with_reducible first | refine n0 (g := 82) ?_ | show Exists _); refine ⟨_, l_toIns .., rfl, ?_⟩; rotate_right; conv => whnf) | (intro h; conv => whnf))
  all_goals repeat clear hK K1
  all_goals first | rfl | assumption | exact Bool.noConfusion (h.symm.trans hp) | omega | (dsimp only; omega) | exact congrArg (Dat.int .i64) (wrap_succ (by assumption) (by assumption)).symm | exact jM (rW K.inss.dflt ⟨0, 0, 0, 0⟩ (by assumption)).symm | (simp; omega) | exact zJ (vV h) | (show (_ : Int) * ((32 : Nat) : Int) ≤ _; omega)
theorem l_toProgram (w mem inn : Int) (a : List V.Ins) (hl : a.length ≤ 1048576) : CallsV Tryz.prog 14 [.agg [.dat (.i w), .dat (.i mem), .dat (.i inn), .dat (.seq .inss a)]] (.agg [.dat (.i w), .dat (.i mem), .dat (.i inn), .dat (.seq .inss a)]) := by
  refine oV Tryz.func14 ⟨?_⟩
  repeat' (first | ((with_reducible refine fun (K1 : KT) hK => ?_); refine m4 ⟨?_⟩) | ((with_reducible show K1 _ _); subst hK; conv => whnf) | (with_reducible exact rfl) | refine st0 ⟨?_⟩ | ((with_reducible refine SplS.mk (fun h => ?_) (fun h => ?_)) <;> first | exact f5 | (subst h; conv => whnf) | (conv => whnf)) | refine f1 ⟨?_⟩ ⟨?_⟩ | ((with_reducible refine o8 (g := 44) ?_); refine ⟨_, _, lZ (hl := ?_) .., rfl, zV ?_⟩; rotate_right; conv => whnf) | (intro h; conv => whnf))
  all_goals repeat clear hK K1
  all_goals first | rfl | assumption | exact Bool.noConfusion (h.symm.trans hp) | (simp_all []; done) | grind [] | (simp_all []; omega)
theorem qgw (a : List V.Ins) (left : Int) (h0 : 0 ≤ left) (h1 : left ≤ 1048576) : CallsV Tryz.prog 42 [.dat (.seq .inss a), .dat (.i left)] (.dat (.i (if left - a.length < 0 then -1 else left - a.length))) := by
  refine oV Tryz.func42 ⟨?_⟩
  repeat' (first | ((with_reducible refine fun (K1 : KT) hK => ?_); refine m4 ⟨?_⟩) | ((with_reducible show K1 _ _); subst hK; conv => whnf) | (with_reducible exact rfl) | refine st0 ⟨?_⟩ | ((with_reducible refine SplS.mk (fun h => ?_) (fun h => ?_)) <;> first | exact f5 | (subst h; conv => whnf) | (conv => whnf)) | (intro h; conv => whnf))
  all_goals repeat clear hK K1
  all_goals
    have hm : maxLen = 9223372036854775807 := rfl
    rw [wrap_id omG omG] at *
    simp [h]
theorem zR (w mem inn : Int) (a : List V.Ins) (left : Int) (h0 : 0 ≤ left) (h1 : left ≤ 1048576) : CallsV Tryz.prog 12 [.agg [.dat (.i w), .dat (.i mem), .dat (.i inn), .dat (.seq .inss a)], .dat (.i left)] (.dat (.i (if left - a.length < 0 then -1 else left - a.length))) := by
  refine oV Tryz.func12 ⟨?_⟩
  repeat' (first | ((with_reducible refine fun (K1 : KT) hK => ?_); refine m4 ⟨?_⟩) | ((with_reducible show K1 _ _); subst hK; conv => whnf) | (with_reducible exact rfl) | refine st0 ⟨?_⟩ | ((with_reducible refine SplS.mk (fun h => ?_) (fun h => ?_)) <;> first | exact f5 | (subst h; conv => whnf) | (conv => whnf)) | ((with_reducible first | refine n0 (g := 42) ?_ | show Exists _); refine ⟨_, qgw (h0 := ?_) (h1 := ?_) .., rfl, ?_⟩; rotate_right; conv => whnf) | (intro h; conv => whnf))
  all_goals repeat clear hK K1
  all_goals first | assumption | rfl | (split at h <;> simp_all; done)
theorem l_eqIns (op a b c op' a' b' c' : Int) : CallsV Tryz.prog 83 [.agg [.dat (.i op), .dat (.i a), .dat (.i b), .dat (.i c)], .agg [.dat (.i op'), .dat (.i a'), .dat (.i b'), .dat (.i c')]] (.dat (.bool (decide ((⟨op, a, b, c⟩ : V.Ins) = ⟨op', a', b', c'⟩)))) := by
  refine oV Tryz.func83 ⟨?_⟩
  repeat' (first | ((with_reducible refine fun (K1 : KT) hK => ?_); refine m4 ⟨?_⟩) | ((with_reducible show K1 _ _); subst hK; conv => whnf) | (with_reducible exact rfl) | refine st0 ⟨?_⟩ | ((with_reducible refine SplS.mk (fun h => ?_) (fun h => ?_)) <;> first | exact f5 | (subst h; conv => whnf) | (conv => whnf)) | (intro h; conv => whnf))
  all_goals repeat clear hK K1
  all_goals first | rfl | assumption | exact Bool.noConfusion (h.symm.trans hp) | (simp_all []; done) | grind [] | (simp_all []; omega)
theorem qgx (a b : List V.Ins) : CallsV Tryz.prog 45 [.dat (.seq .inss a), .dat (.seq .inss b)] (.dat (.bool (decide (a = b)))) := by
  refine oV Tryz.func45 ⟨?_⟩
  repeat' (first | ((with_reducible refine fun (K1 : KT) hK => ?_); refine m4 ⟨?_⟩) | ((with_reducible show K1 _ _); subst hK; conv => whnf) | (with_reducible exact rfl) | refine st0 ⟨?_⟩ | ((with_reducible refine SplS.mk (fun h => ?_) (fun h => ?_)) <;> first | exact f5 | (subst h; conv => whnf) | (conv => whnf)) | refine f1 ⟨?_⟩ ⟨?_⟩ | (refine Exists.intro ({k : Nat // a.take k = b.take k}) (Exists.intro (fun ⟨k, hk⟩ => r4 Tryz.f45.ntmps [(0, .dat (.seq .inss a)), (1, .dat (.seq .inss b)), (5, .dat (.i k))] []) (Exists.intro (fun ⟨k, hk⟩ => a.length - k) (Exists.intro ⟨0, rfl⟩ (And.intro (SubP.sub (σ := []) ⟨⟨rfl, rfl, rfl⟩, ⟨o0 ?_, o0 ?_, o0 ?_, trivial⟩, trivial⟩) (fun ⟨k, hk⟩ => ?_))))); rotate_right; conv => whnf) | (refine Exists.intro ⟨k + 1, ?_⟩ (And.intro ?_ (SubP.sub (σ := []) ⟨⟨rfl, rfl, rfl⟩, ⟨o0 ?_, o0 ?_, o0 ?_, trivial⟩, trivial⟩))) | ((with_reducible show Exists _); refine Exists.intro _ (And.intro (l_eqIns ..) (And.intro rfl ?_)); rotate_right; conv => whnf) | (intro h; conv => whnf))
  all_goals repeat clear hK K1
  all_goals first | rfl | assumption | exact Bool.noConfusion (h.symm.trans hp) | omega | (dsimp only; omega) | exact congrArg (Dat.int .i64) (wrap_succ (by assumption) (by assumption)).symm | exact congrArg Dat.bool (decide_eq_false (fun e => h (by rw [e]))) | exact wG K.inss.dflt (by assumption) omG hk (of_decide_eq_true h) | exact congrArg Dat.bool (decide_eq_false (qgb (of_decide_eq_false h))) | exact congrArg Dat.bool (decide_eq_true (yL (by assumption) omG hk))
theorem aS (w mem inn : Int) (a : List V.Ins) (w' mem' inn' : Int) (a' : List V.Ins) : CallsV Tryz.prog 17 [.agg [.dat (.i w), .dat (.i mem), .dat (.i inn), .dat (.seq .inss a)], .agg [.dat (.i w'), .dat (.i mem'), .dat (.i inn'), .dat (.seq .inss a')]] (.dat (.bool (decide ((⟨w, mem, inn, a⟩ : V.Prog) = ⟨w', mem', inn', a'⟩)))) := by
  refine oV Tryz.func17 ⟨?_⟩
  repeat' (first | ((with_reducible refine fun (K1 : KT) hK => ?_); refine m4 ⟨?_⟩) | ((with_reducible show K1 _ _); subst hK; conv => whnf) | (with_reducible exact rfl) | refine st0 ⟨?_⟩ | ((with_reducible refine SplS.mk (fun h => ?_) (fun h => ?_)) <;> first | exact f5 | (subst h; conv => whnf) | (conv => whnf)) | ((with_reducible first | refine n0 (g := 45) ?_ | show Exists _); refine ⟨_, qgx .., rfl, ?_⟩; rotate_right; conv => whnf) | (intro h; conv => whnf))
  all_goals repeat clear hK K1
  all_goals first | rfl | assumption | exact Bool.noConfusion (h.symm.trans hp) | (simp_all []; done) | grind [] | (simp_all []; omega)
set_option maxRecDepth 100000 in
theorem qa0 (w : Int) (hw : inP w 1 16 = true) : CallsV Tryz.prog 217 [.dat (.i w)] (.dat (.i (2 ^ w.toNat - 1))) := by
  refine oV Tryz.func217 ⟨?_⟩
  repeat' (first | ((with_reducible refine fun (K1 : KT) hK => ?_); refine m4 ⟨?_⟩) | ((with_reducible show K1 _ _); subst hK; conv => whnf) | (with_reducible exact rfl) | refine st0 ⟨?_⟩ | ((with_reducible refine SplS.mk (fun h => ?_) (fun h => ?_)) <;> first | exact f5 | (subst h; conv => whnf) | (conv => whnf)) | refine f1 ⟨?_⟩ ⟨?_⟩ | (intro h; conv => whnf))
  all_goals repeat clear hK K1
  · rw [uw hw, wJ hw, top1 hw]
  · rw [uw hw]; simp [inP] at hw; omega
theorem progP_w {p : V.Prog} (h : y4 p = true) : inP p.w 1 16 = true := by
  simp [y4, inP] at h
  simp [inP]; omega
end Vg
