/- The table of types of the program. No condition. -/
import Derived.Test.YtahdmongckgjcaaGreatDoorTy
import Derived.Test.YtahdmongckgjcaaGreatDoorProg
import Derived.Shelf.Small.Strs
namespace Vg
open Go Go.Proofs
set_option maxRecDepth 100000
set_option maxHeartbeats 40000000
def ty3 : TyI := ⟨false, 1, 8, [.int .i64 0], [.int .i64 0], .int .i64⟩
def ty4 : TyI := ⟨false, 1, 1, [.bool false], [.bool false], .bool⟩
def ty91 : TyI := ⟨true, 4, 32, [.int .i64 0, .int .i64 0, .int .i64 0, .int .i64 0], [.int .i64 0, .int .i64 0, .int .i64 0, .int .i64 0], .flds [(0, 3), (1, 3), (2, 3), (3, 3)]⟩
def ty34 : TyI := ⟨true, 4, 48, [.int .i64 0, .int .i64 0, .int .i64 0, .slice none 0 0], [.int .i64 0, .int .i64 0, .int .i64 0, .seq .inss []], .flds [(0, 3), (1, 3), (2, 3), (3, 32)]⟩
def ty2 : TyI := ⟨false, 1, 8, [.int .i64 0], [.int .i64 0], .int .i64⟩
def ty5 : TyI := ⟨false, 1, 1, [.int .u8 0], [.int .u8 0], .int .u8⟩
def ty6 : TyI := ⟨false, 1, 1, [.int .u8 0], [.int .u8 0], .int .u8⟩
def ty7 : TyI := ⟨true, 4, 24, [.int .i64 0, .int .i64 0, .bool false, .int .u8 0], [.int .i64 0, .int .i64 0, .bool false, .int .u8 0], .flds [(0, 2), (1, 3), (2, 4), (3, 6)]⟩
def ty8 : TyI := ⟨true, 4, 24, [.int .i64 0, .int .i64 0, .bool false, .int .u8 0], [.int .i64 0, .int .i64 0, .bool false, .int .u8 0], .flds [(0, 2), (1, 3), (2, 4), (3, 6)]⟩
def ty9 : TyI := ⟨false, 1, 16, [.string ByteArray.empty], [.str ByteArray.empty], .str⟩
def ty10 : TyI := ⟨false, 1, 16, [.string ByteArray.empty], [.str ByteArray.empty], .str⟩
def ty11 : TyI := ⟨false, 1, 16, [.string ByteArray.empty], [.str ByteArray.empty], .str⟩
def ty12 : TyI := ⟨false, 1, 8, [.int .u64 0], [.int .u64 0], .int .u64⟩
def ty13 : TyI := ⟨true, 2, 24, [.string ByteArray.empty, .int .u64 0], [.str ByteArray.empty, .int .u64 0], .flds [(0, 9), (1, 12)]⟩
def ty14 : TyI := ⟨true, 2, 24, [.string ByteArray.empty, .int .u64 0], [.str ByteArray.empty, .int .u64 0], .flds [(0, 9), (1, 12)]⟩
def ty20 : TyI := ⟨false, 1, 16, [.nilIface], [.err false], .iface⟩
def ty21 : TyI := ⟨false, 1, 4, [.int .i32 0], [.int .i32 0], .int .i32⟩
def ty22 : TyI := ⟨false, 1, 24, [.slice none 0 0], [.seq .inss []], .slice 94 .inss⟩
def ty23 : TyI := ⟨true, 4, 48, [.int .i64 0, .int .i64 0, .int .i64 0, .slice none 0 0], [.int .i64 0, .int .i64 0, .int .i64 0, .seq .inss []], .flds [(0, 3), (1, 3), (2, 3), (3, 22)]⟩
def ty24 : TyI := ⟨true, 4, 48, [.int .i64 0, .int .i64 0, .int .i64 0, .slice none 0 0], [.int .i64 0, .int .i64 0, .int .i64 0, .seq .inss []], .flds [(0, 3), (1, 3), (2, 3), (3, 22)]⟩
def ty26 : TyI := ⟨false, 1, 24, [.slice none 0 0], [.seq .intss []], .slice 61 .intss⟩
def ty27 : TyI := ⟨false, 1, 24, [.slice none 0 0], [.seq .bools []], .slice 4 .bools⟩
def ty28 : TyI := ⟨true, 5, 104, [.int .i64 0, .slice none 0 0, .slice none 0 0, .slice none 0 0, .slice none 0 0], [.int .i64 0, .seq .intss [], .seq .intss [], .seq .bools [], .seq .intss []], .flds [(0, 3), (1, 26), (2, 26), (3, 27), (4, 26)]⟩
def ty29 : TyI := ⟨true, 5, 104, [.int .i64 0, .slice none 0 0, .slice none 0 0, .slice none 0 0, .slice none 0 0], [.int .i64 0, .seq .intss [], .seq .intss [], .seq .bools [], .seq .intss []], .flds [(0, 3), (1, 26), (2, 26), (3, 27), (4, 26)]⟩
def ty32 : TyI := ⟨false, 1, 24, [.slice none 0 0], [.seq .inss []], .slice 91 .inss⟩
def ty33 : TyI := ⟨true, 4, 48, [.int .i64 0, .int .i64 0, .int .i64 0, .slice none 0 0], [.int .i64 0, .int .i64 0, .int .i64 0, .seq .inss []], .flds [(0, 3), (1, 3), (2, 3), (3, 32)]⟩
def ty41 : TyI := ⟨false, 1, 24, [.slice none 0 0], [.seq .intss []], .slice 98 .intss⟩
def ty42 : TyI := ⟨true, 5, 104, [.int .i64 0, .slice none 0 0, .slice none 0 0, .slice none 0 0, .slice none 0 0], [.int .i64 0, .seq .intss [], .seq .intss [], .seq .bools [], .seq .intss []], .flds [(0, 3), (1, 41), (2, 41), (3, 27), (4, 41)]⟩
def ty43 : TyI := ⟨true, 5, 104, [.int .i64 0, .slice none 0 0, .slice none 0 0, .slice none 0 0, .slice none 0 0], [.int .i64 0, .seq .intss [], .seq .intss [], .seq .bools [], .seq .intss []], .flds [(0, 3), (1, 41), (2, 41), (3, 27), (4, 41)]⟩
def ty51 : TyI := ⟨false, 1, 24, [.slice none 0 0], [.seq .ints []], .slice 3 .ints⟩
def ty60 : TyI := ⟨true, 1, 24, [.slice none 0 0], [.seq .ints []], .flds [(0, 51)]⟩
def ty61 : TyI := ⟨true, 1, 24, [.slice none 0 0], [.seq .ints []], .flds [(0, 51)]⟩
def ty71 : TyI := ⟨false, 1, 24, [.slice none 0 0], [.seq .terms []], .slice 109 .terms⟩
def ty72 : TyI := ⟨true, 10, 176, [.int .i64 0, .slice none 0 0, .slice none 0 0, .slice none 0 0, .int .i64 0, .slice none 0 0, .int .i64 0, .int .i64 0, .slice none 0 0, .slice none 0 0], [.int .i64 0, .seq .terms [], .seq .terms [], .seq .ints [], .int .i64 0, .seq .terms [], .int .i64 0, .int .i64 0, .seq .terms [], .seq .ints []], .flds [(0, 3), (1, 71), (2, 71), (3, 51), (4, 3), (5, 71), (6, 3), (7, 3), (8, 71), (9, 51)]⟩
def ty73 : TyI := ⟨true, 10, 176, [.int .i64 0, .slice none 0 0, .slice none 0 0, .slice none 0 0, .int .i64 0, .slice none 0 0, .int .i64 0, .int .i64 0, .slice none 0 0, .slice none 0 0], [.int .i64 0, .seq .terms [], .seq .terms [], .seq .ints [], .int .i64 0, .seq .terms [], .int .i64 0, .int .i64 0, .seq .terms [], .seq .ints []], .flds [(0, 3), (1, 71), (2, 71), (3, 51), (4, 3), (5, 71), (6, 3), (7, 3), (8, 71), (9, 51)]⟩
def ty90 : TyI := ⟨true, 4, 32, [.int .i64 0, .int .i64 0, .int .i64 0, .int .i64 0], [.int .i64 0, .int .i64 0, .int .i64 0, .int .i64 0], .flds [(0, 3), (1, 3), (2, 3), (3, 3)]⟩
def ty94 : TyI := ⟨true, 4, 32, [.int .i64 0, .int .i64 0, .int .i64 0, .int .i64 0], [.int .i64 0, .int .i64 0, .int .i64 0, .int .i64 0], .flds [(0, 3), (1, 3), (2, 3), (3, 3)]⟩
def ty98 : TyI := ⟨true, 1, 24, [.slice none 0 0], [.seq .ints []], .flds [(0, 51)]⟩
def ty101 : TyI := ⟨false, 1, 24, [.slice none 0 0], [.seq .paths []], .slice 73 .paths⟩
def ty103 : TyI := ⟨false, 1, 24, [.slice none 0 0], [.seq .strs []], .slice 9 .strs⟩
def ty107 : TyI := ⟨false, 1, 8, [.int .u64 0], [.int .u64 0], .int .u64⟩
def ty108 : TyI := ⟨true, 5, 64, [.int .i64 0, .int .i64 0, .int .i64 0, .string ByteArray.empty, .slice none 0 0], [.int .i64 0, .int .i64 0, .int .i64 0, .str ByteArray.empty, .seq .terms []], .flds [(0, 3), (1, 3), (2, 3), (3, 9), (4, 71)]⟩
def ty109 : TyI := ⟨true, 5, 64, [.int .i64 0, .int .i64 0, .int .i64 0, .string ByteArray.empty, .slice none 0 0], [.int .i64 0, .int .i64 0, .int .i64 0, .str ByteArray.empty, .seq .terms []], .flds [(0, 3), (1, 3), (2, 3), (3, 9), (4, 71)]⟩
def ty113 : TyI := ⟨false, 1, 24, [.slice none 0 0], [.seq .bytes []], .slice 5 .bytes⟩
def ty116 : TyI := ⟨true, 1, 1, [.bool false], [.bool false], .flds [(0, 4)]⟩
def ty117 : TyI := ⟨true, 1, 1, [.bool false], [.bool false], .flds [(0, 4)]⟩
def ty136 : TyI := ⟨false, 1, 16, [.nilIface], [.err false], .iface⟩
def ty137 : TyI := ⟨false, 1, 16, [.nilIface], [.err false], .iface⟩
def ty155 : TyI := ⟨false, 1, 8, [.int .u64 0], [.int .u64 0], .int .u64⟩
def ty163 : TyI := ⟨false, 1, 8, [.map none], [], .map⟩
def ty164 : TyI := ⟨true, 2, 16, [.int .i64 0, .map none], [], .flds [(0, 3), (1, 163)]⟩
def ty165 : TyI := ⟨true, 2, 16, [.int .i64 0, .map none], [], .flds [(0, 3), (1, 163)]⟩
def ty170 : TyI := ⟨false, 1, 4, [.int .u32 0], [.int .u32 0], .int .u32⟩
def ty178 : TyI := ⟨false, 1, 24, [.slice none 0 0], [.seq .vals []], .slice 192 .vals⟩
def ty191 : TyI := ⟨true, 3, 32, [.string ByteArray.empty, .int .i64 0, .int .i64 0], [.str ByteArray.empty, .int .i64 0, .int .i64 0], .flds [(0, 9), (1, 3), (2, 3)]⟩
def ty192 : TyI := ⟨true, 3, 32, [.string ByteArray.empty, .int .i64 0, .int .i64 0], [.str ByteArray.empty, .int .i64 0, .int .i64 0], .flds [(0, 9), (1, 3), (2, 3)]⟩
def ty205 : TyI := ⟨false, 1, 1, [.int .u8 0], [.int .u8 0], .int .u8⟩
def ty206 : TyI := ⟨false, 1, 1, [.int .u8 0], [.int .u8 0], .int .u8⟩
def ty208 : TyI := ⟨false, 1, 4, [.int .i32 0], [.int .i32 0], .int .i32⟩
def ty209 : TyI := ⟨false, 1, 4, [.int .i32 0], [.int .i32 0], .int .i32⟩
def tauL : List (Nat × TyI) := [(3, ty3), (4, ty4), (91, ty91), (34, ty34), (2, ty2), (5, ty5), (6, ty6), (7, ty7), (8, ty8), (9, ty9), (10, ty10), (11, ty11), (12, ty12), (13, ty13), (14, ty14), (20, ty20), (21, ty21), (22, ty22), (23, ty23), (24, ty24), (26, ty26), (27, ty27), (28, ty28), (29, ty29), (32, ty32), (33, ty33), (41, ty41), (42, ty42), (43, ty43), (51, ty51), (60, ty60), (61, ty61), (71, ty71), (72, ty72), (73, ty73), (90, ty90), (94, ty94), (98, ty98), (101, ty101), (103, ty103), (107, ty107), (108, ty108), (109, ty109), (113, ty113), (116, ty116), (117, ty117), (136, ty136), (137, ty137), (155, ty155), (163, ty163), (164, ty164), (165, ty165), (170, ty170), (178, ty178), (191, ty191), (192, ty192), (205, ty205), (206, ty206), (208, ty208), (209, ty209)]
def tau : Tys := lookTy tauL
theorem tyOk3 : TyOk Tryz.prog 3 ty3 := .of _ _ rfl rfl rfl rfl rfl (.inr rfl) rfl rfl _ rfl rfl rfl
theorem tyOk4 : TyOk Tryz.prog 4 ty4 := .of _ _ rfl rfl rfl rfl rfl (.inr rfl) rfl rfl _ rfl rfl rfl
theorem tyOk91 : TyOk Tryz.prog 91 ty91 := .of _ _ rfl rfl rfl rfl rfl (.inr rfl) rfl rfl _ rfl rfl ⟨_, rfl, rfl⟩
theorem tyOk34 : TyOk Tryz.prog 34 ty34 := .of _ _ rfl rfl rfl rfl rfl (.inr rfl) rfl rfl _ rfl rfl ⟨_, rfl, rfl⟩
theorem tyOk2 : TyOk Tryz.prog 2 ty2 := .of _ _ rfl rfl rfl rfl rfl (.inr rfl) rfl rfl _ rfl rfl rfl
theorem tyOk5 : TyOk Tryz.prog 5 ty5 := .of _ _ rfl rfl rfl rfl rfl (.inr rfl) rfl rfl _ rfl rfl rfl
theorem tyOk6 : TyOk Tryz.prog 6 ty6 := .of _ _ rfl rfl rfl rfl rfl (.inr rfl) rfl rfl _ rfl rfl rfl
theorem tyOk7 : TyOk Tryz.prog 7 ty7 := .of _ _ rfl rfl rfl rfl rfl (.inr rfl) rfl rfl _ rfl rfl ⟨_, rfl, rfl⟩
theorem tyOk8 : TyOk Tryz.prog 8 ty8 := .of _ _ rfl rfl rfl rfl rfl (.inr rfl) rfl rfl _ rfl rfl ⟨_, rfl, rfl⟩
theorem tyOk9 : TyOk Tryz.prog 9 ty9 := .of _ _ rfl rfl rfl rfl rfl (.inr rfl) rfl rfl _ rfl rfl rfl
theorem tyOk10 : TyOk Tryz.prog 10 ty10 := .of _ _ rfl rfl rfl rfl rfl (.inr rfl) rfl rfl _ rfl rfl rfl
theorem tyOk11 : TyOk Tryz.prog 11 ty11 := .of _ _ rfl rfl rfl rfl rfl (.inr rfl) rfl rfl _ rfl rfl rfl
theorem tyOk12 : TyOk Tryz.prog 12 ty12 := .of _ _ rfl rfl rfl rfl rfl (.inr rfl) rfl rfl _ rfl rfl rfl
theorem tyOk13 : TyOk Tryz.prog 13 ty13 := .of _ _ rfl rfl rfl rfl rfl (.inr rfl) rfl rfl _ rfl rfl ⟨_, rfl, rfl⟩
theorem tyOk14 : TyOk Tryz.prog 14 ty14 := .of _ _ rfl rfl rfl rfl rfl (.inr rfl) rfl rfl _ rfl rfl ⟨_, rfl, rfl⟩
theorem tyOk20 : TyOk Tryz.prog 20 ty20 := .of _ _ rfl rfl rfl rfl rfl (.inr rfl) rfl rfl _ rfl rfl ⟨_, rfl⟩
theorem tyOk21 : TyOk Tryz.prog 21 ty21 := .of _ _ rfl rfl rfl rfl rfl (.inr rfl) rfl rfl _ rfl rfl rfl
theorem tyOk22 : TyOk Tryz.prog 22 ty22 := .of _ _ rfl rfl rfl rfl rfl (.inr rfl) rfl rfl _ rfl rfl rfl
theorem tyOk23 : TyOk Tryz.prog 23 ty23 := .of _ _ rfl rfl rfl rfl rfl (.inr rfl) rfl rfl _ rfl rfl ⟨_, rfl, rfl⟩
theorem tyOk24 : TyOk Tryz.prog 24 ty24 := .of _ _ rfl rfl rfl rfl rfl (.inr rfl) rfl rfl _ rfl rfl ⟨_, rfl, rfl⟩
theorem tyOk26 : TyOk Tryz.prog 26 ty26 := .of _ _ rfl rfl rfl rfl rfl (.inr rfl) rfl rfl _ rfl rfl rfl
theorem tyOk27 : TyOk Tryz.prog 27 ty27 := .of _ _ rfl rfl rfl rfl rfl (.inr rfl) rfl rfl _ rfl rfl rfl
theorem tyOk28 : TyOk Tryz.prog 28 ty28 := .of _ _ rfl rfl rfl rfl rfl (.inr rfl) rfl rfl _ rfl rfl ⟨_, rfl, rfl⟩
theorem tyOk29 : TyOk Tryz.prog 29 ty29 := .of _ _ rfl rfl rfl rfl rfl (.inr rfl) rfl rfl _ rfl rfl ⟨_, rfl, rfl⟩
theorem tyOk32 : TyOk Tryz.prog 32 ty32 := .of _ _ rfl rfl rfl rfl rfl (.inr rfl) rfl rfl _ rfl rfl rfl
theorem tyOk33 : TyOk Tryz.prog 33 ty33 := .of _ _ rfl rfl rfl rfl rfl (.inr rfl) rfl rfl _ rfl rfl ⟨_, rfl, rfl⟩
theorem tyOk41 : TyOk Tryz.prog 41 ty41 := .of _ _ rfl rfl rfl rfl rfl (.inr rfl) rfl rfl _ rfl rfl rfl
theorem tyOk42 : TyOk Tryz.prog 42 ty42 := .of _ _ rfl rfl rfl rfl rfl (.inr rfl) rfl rfl _ rfl rfl ⟨_, rfl, rfl⟩
theorem tyOk43 : TyOk Tryz.prog 43 ty43 := .of _ _ rfl rfl rfl rfl rfl (.inr rfl) rfl rfl _ rfl rfl ⟨_, rfl, rfl⟩
theorem tyOk51 : TyOk Tryz.prog 51 ty51 := .of _ _ rfl rfl rfl rfl rfl (.inr rfl) rfl rfl _ rfl rfl rfl
theorem tyOk60 : TyOk Tryz.prog 60 ty60 := .of _ _ rfl rfl rfl rfl rfl (.inr rfl) rfl rfl _ rfl rfl ⟨_, rfl, rfl⟩
theorem tyOk61 : TyOk Tryz.prog 61 ty61 := .of _ _ rfl rfl rfl rfl rfl (.inr rfl) rfl rfl _ rfl rfl ⟨_, rfl, rfl⟩
theorem tyOk71 : TyOk Tryz.prog 71 ty71 := .of _ _ rfl rfl rfl rfl rfl (.inr rfl) rfl rfl _ rfl rfl rfl
theorem tyOk72 : TyOk Tryz.prog 72 ty72 := .of _ _ rfl rfl rfl rfl rfl (.inr rfl) rfl rfl _ rfl rfl ⟨_, rfl, rfl⟩
theorem tyOk73 : TyOk Tryz.prog 73 ty73 := .of _ _ rfl rfl rfl rfl rfl (.inr rfl) rfl rfl _ rfl rfl ⟨_, rfl, rfl⟩
theorem tyOk90 : TyOk Tryz.prog 90 ty90 := .of _ _ rfl rfl rfl rfl rfl (.inr rfl) rfl rfl _ rfl rfl ⟨_, rfl, rfl⟩
theorem tyOk94 : TyOk Tryz.prog 94 ty94 := .of _ _ rfl rfl rfl rfl rfl (.inr rfl) rfl rfl _ rfl rfl ⟨_, rfl, rfl⟩
theorem tyOk98 : TyOk Tryz.prog 98 ty98 := .of _ _ rfl rfl rfl rfl rfl (.inr rfl) rfl rfl _ rfl rfl ⟨_, rfl, rfl⟩
theorem tyOk101 : TyOk Tryz.prog 101 ty101 := .of _ _ rfl rfl rfl rfl rfl (.inr rfl) rfl rfl _ rfl rfl rfl
theorem tyOk103 : TyOk Tryz.prog 103 ty103 := .of _ _ rfl rfl rfl rfl rfl (.inr rfl) rfl rfl _ rfl rfl rfl
theorem tyOk107 : TyOk Tryz.prog 107 ty107 := .of _ _ rfl rfl rfl rfl rfl (.inr rfl) rfl rfl _ rfl rfl rfl
theorem tyOk108 : TyOk Tryz.prog 108 ty108 := .of _ _ rfl rfl rfl rfl rfl (.inr rfl) rfl rfl _ rfl rfl ⟨_, rfl, rfl⟩
theorem tyOk109 : TyOk Tryz.prog 109 ty109 := .of _ _ rfl rfl rfl rfl rfl (.inr rfl) rfl rfl _ rfl rfl ⟨_, rfl, rfl⟩
theorem tyOk113 : TyOk Tryz.prog 113 ty113 := .of _ _ rfl rfl rfl rfl rfl (.inr rfl) rfl rfl _ rfl rfl rfl
theorem tyOk116 : TyOk Tryz.prog 116 ty116 := .of _ _ rfl rfl rfl rfl rfl (.inr rfl) rfl rfl _ rfl rfl ⟨_, rfl, rfl⟩
theorem tyOk117 : TyOk Tryz.prog 117 ty117 := .of _ _ rfl rfl rfl rfl rfl (.inr rfl) rfl rfl _ rfl rfl ⟨_, rfl, rfl⟩
theorem tyOk136 : TyOk Tryz.prog 136 ty136 := .of _ _ rfl rfl rfl rfl rfl (.inr rfl) rfl rfl _ rfl rfl ⟨_, rfl⟩
theorem tyOk137 : TyOk Tryz.prog 137 ty137 := .of _ _ rfl rfl rfl rfl rfl (.inr rfl) rfl rfl _ rfl rfl ⟨_, rfl⟩
theorem tyOk155 : TyOk Tryz.prog 155 ty155 := .of _ _ rfl rfl rfl rfl rfl (.inr rfl) rfl rfl _ rfl rfl rfl
theorem tyOk163 : TyOk Tryz.prog 163 ty163 := .of _ _ rfl rfl rfl rfl rfl (.inl rfl) rfl rfl _ rfl rfl ⟨_, _, rfl, rfl, fun _ => rfl⟩
theorem tyOk164 : TyOk Tryz.prog 164 ty164 := .of _ _ rfl rfl rfl rfl rfl (.inl rfl) rfl rfl _ rfl rfl ⟨_, rfl, rfl⟩
theorem tyOk165 : TyOk Tryz.prog 165 ty165 := .of _ _ rfl rfl rfl rfl rfl (.inl rfl) rfl rfl _ rfl rfl ⟨_, rfl, rfl⟩
theorem tyOk170 : TyOk Tryz.prog 170 ty170 := .of _ _ rfl rfl rfl rfl rfl (.inr rfl) rfl rfl _ rfl rfl rfl
theorem tyOk178 : TyOk Tryz.prog 178 ty178 := .of _ _ rfl rfl rfl rfl rfl (.inr rfl) rfl rfl _ rfl rfl rfl
theorem tyOk191 : TyOk Tryz.prog 191 ty191 := .of _ _ rfl rfl rfl rfl rfl (.inr rfl) rfl rfl _ rfl rfl ⟨_, rfl, rfl⟩
theorem tyOk192 : TyOk Tryz.prog 192 ty192 := .of _ _ rfl rfl rfl rfl rfl (.inr rfl) rfl rfl _ rfl rfl ⟨_, rfl, rfl⟩
theorem tyOk205 : TyOk Tryz.prog 205 ty205 := .of _ _ rfl rfl rfl rfl rfl (.inr rfl) rfl rfl _ rfl rfl rfl
theorem tyOk206 : TyOk Tryz.prog 206 ty206 := .of _ _ rfl rfl rfl rfl rfl (.inr rfl) rfl rfl _ rfl rfl rfl
theorem tyOk208 : TyOk Tryz.prog 208 ty208 := .of _ _ rfl rfl rfl rfl rfl (.inr rfl) rfl rfl _ rfl rfl rfl
theorem tyOk209 : TyOk Tryz.prog 209 ty209 := .of _ _ rfl rfl rfl rfl rfl (.inr rfl) rfl rfl _ rfl rfl rfl
theorem qaf : qbl Tryz.prog tau := qnd ⟨tyOk3, tyOk4, tyOk91, tyOk34, tyOk2, tyOk5, tyOk6, tyOk7, tyOk8, tyOk9, tyOk10, tyOk11, tyOk12, tyOk13, tyOk14, tyOk20, tyOk21, tyOk22, tyOk23, tyOk24, tyOk26, tyOk27, tyOk28, tyOk29, tyOk32, tyOk33, tyOk41, tyOk42, tyOk43, tyOk51, tyOk60, tyOk61, tyOk71, tyOk72, tyOk73, tyOk90, tyOk94, tyOk98, tyOk101, tyOk103, tyOk107, tyOk108, tyOk109, tyOk113, tyOk116, tyOk117, tyOk136, tyOk137, tyOk155, tyOk163, tyOk164, tyOk165, tyOk170, tyOk178, tyOk191, tyOk192, tyOk205, tyOk206, tyOk208, tyOk209, trivial⟩
theorem qag : Tryz.prog.follows .mixedOrders = true := rfl
end Vg

namespace Go.Proofs
open Go.Shelf
def Tryz.lays106_ren : Go.Shelf.Ren := ⟨fun | 106 => 211 | 213 => 219 | 265 => 220 | n => n, fun | 9 => 9 | 3 => 3 | n => n, fun | n => n⟩
theorem Tryz.lays106 : Go.Proofs.Lays.n106 Tryz.prog Tryz.lays106_ren := {
  mixed := by kernel_rfl
  f106 := Tryz.func211.trans (congrArg some (by kernel_rfl))
  f213 := Tryz.func219.trans (congrArg some (by kernel_rfl))
  f265 := Tryz.func220.trans (congrArg some (by kernel_rfl))
  t3 := Tryz.underlying3
  a3 := Tryz.isAgg3
  z3 := Tryz.sizeOf3
  v3 := Tryz.zeroValue3
  t9 := Tryz.underlying9
  a9 := Tryz.isAgg9
  z9 := Tryz.sizeOf9
  v9 := Tryz.zeroValue9 }
end Go.Proofs

namespace Vg
open Go Go.Proofs
set_option maxRecDepth 100000
set_option maxHeartbeats 40000000
theorem qad {a b : Prop} (hb : b) (ha : a) : a ∧ b := ⟨ha, hb⟩
theorem pcI {P : Program} {τ : Tys} {S : AState} {blk : Nat → Option Blk} {dst : Option Nat} {g : Nat} {Ts Ts' : List Nat} {vs vs' vs'' : List AV} {K : AV → Prop} {K' K'' : AState → Prop} {Z : Prop} (h : qi6 P τ blk g Ts vs K) :
    qi6 P τ blk g Ts vs K ∨ qmc P τ S dst g Ts' vs' K' ∨ qnj P S dst g vs'' K'' ∨ Z := .inl h
theorem fcI {P : Program} {τ : Tys} {S : AState} {blk : Nat → Option Blk} {dst : Option Nat} {g : Nat} {Ts Ts' : List Nat} {vs vs' vs'' : List AV} {K : AV → Prop} {K' K'' : AState → Prop} {Z : Prop} (h : qmc P τ S dst g Ts' vs' K') :
    qi6 P τ blk g Ts vs K ∨ qmc P τ S dst g Ts' vs' K' ∨ qnj P S dst g vs'' K'' ∨ Z := .inr (.inl h)
theorem qa0 {b : Bool} {p : Prop} (h : b = false) (h2 : b = true) : p := Bool.noConfusion (h.symm.trans h2)
theorem gcI {P : Program} {τ : Tys} {S : AState} {blk : Nat → Option Blk} {dst : Option Nat} {g : Nat} {Ts Ts' : List Nat} {vs vs' vs'' : List AV} {K : AV → Prop} {K' K'' : AState → Prop} {Z : Prop} (h : qnj P S dst g vs'' K'') :
    qi6 P τ blk g Ts vs K ∨ qmc P τ S dst g Ts' vs' K' ∨ qnj P S dst g vs'' K'' ∨ Z := .inr (.inr (.inl h))
theorem zcI {P : Program} {τ : Tys} {S : AState} {blk : Nat → Option Blk} {dst : Option Nat} {g : Nat} {Ts Ts' : List Nat} {vs vs' vs'' : List AV} {K : AV → Prop} {K' K'' : AState → Prop} {Z : Prop} (h : Z) :
    qi6 P τ blk g Ts vs K ∨ qmc P τ S dst g Ts' vs' K' ∨ qnj P S dst g vs'' K'' ∨ Z := .inr (.inr (.inr h))
theorem qah {n : Int} (h1 : -9223372036854775808 ≤ n) (h2 : n < 9223372036854775808) : IntKind.i64.wrap n = n := by
  simp only [IntKind.wrap]
  have e1 : (2 : Int) ^ IntKind.i64.bits = 18446744073709551616 := rfl
  have e2 : (2 : Int) ^ (IntKind.i64.bits - 1) = 9223372036854775808 := rfl
  have e3 : IntKind.i64.signed = true := rfl
  simp only [e1, e2, e3]
  have h3 := Int.emod_emod_of_dvd n (Int.dvd_refl 18446744073709551616)
  split <;> rename_i hc <;> simp at hc <;> omega
theorem qa1 {k m : Nat} (h : (k : Int) < m) (hm : m ≤ maxLen) : IntKind.i64.wrap ((k : Int) + 1) = ((k + 1 : Nat) : Int) := by
  have : maxLen = 9223372036854775807 := rfl
  rw [qah] <;> omega
theorem sp_T {A B : Prop} (h : A) : (true = true → A) ∧ (true = false → B) := ⟨fun _ => h, fun h => by cases h⟩
theorem sp_F {A B : Prop} (h : B) : (false = true → A) ∧ (false = false → B) := ⟨fun h => (by cases h), fun _ => h⟩
theorem sp_T' {A B : Prop} (h : A) : (true = false → B) ∧ (true = true → A) := ⟨fun h => (by cases h), fun _ => h⟩
theorem sp_F' {A B : Prop} (h : B) : (false = false → B) ∧ (false = true → A) := ⟨fun _ => h, fun h => by cases h⟩
theorem qbe {p A B : Prop} [Decidable p] (h1 : p → A) (h2 : ¬ p → B) : (decide p = true → A) ∧ (decide p = false → B) := ⟨fun h => h1 (of_decide_eq_true h), fun h => h2 (of_decide_eq_false h)⟩
theorem qj3 {p A B : Prop} [Decidable p] (h1 : ¬ p → A) (h2 : p → B) : (decide p = false → A) ∧ (decide p = true → B) := ⟨fun h => h1 (of_decide_eq_false h), fun h => h2 (of_decide_eq_true h)⟩
theorem qdl {b : Bool} {A B : Prop} (h1 : b = true → A) (h2 : b = false → B) : (b = true → A) ∧ (b = false → B) := ⟨h1, h2⟩
theorem qbt {b : Bool} {A B : Prop} (h1 : b = false → A) (h2 : b = true → B) : ((!b) = true → A) ∧ ((!b) = false → B) := ⟨fun h => h1 (by simpa using h), fun h => h2 (by simpa using h)⟩
theorem qcq {b : Bool} {A B : Prop} (h1 : b = true → A) (h2 : b = false → B) : ((!b) = false → A) ∧ ((!b) = true → B) := ⟨fun h => h1 (by simpa using h), fun h => h2 (by simpa using h)⟩
theorem qbn {a b c d : Int} (h1 : a ≤ b) (h2 : c < d) : a ≤ b ∧ c < d := ⟨h1, h2⟩
theorem qdv {a b c d : Int} (h1 : a ≤ b) (h2 : c ≤ d) : a ≤ b ∧ c ≤ d := ⟨h1, h2⟩
theorem qns {a b c d : Nat} (h1 : a ≤ b) (h2 : c ≤ d) : a ≤ b ∧ c ≤ d := ⟨h1, h2⟩
theorem qab {σ : List (Nat × Option Nat)} {d' d : Dat} (h : d' = d) : wk σ (.dat d') (.dat d) := h
theorem qaa {σ : List (Nat × Option Nat)} {d' d : Dat} (h : d' = d) : wkC σ (.dat d') (.dat d) := h
theorem qdj {α : Type} {f : α → Bool} {l : List α} {k : Nat} (d : α) (h : (k : Int) < l.length) : (l.take (k + 1)).all f = ((l.take k).all f && f (l.getD k d)) := by
  have h' : k < l.length := by omega
  rw [List.take_succ_eq_append_getElem h', List.all_append]
  simp [List.getD_eq_getElem?_getD, h']
theorem qhd {α : Type} {f : α → Bool} {l : List α} {k : Nat} {d : α} (h : (k : Int) < l.length) (hf : f (l.getD k d) = false) : l.all f = false := by
  have h' : k < l.length := by omega
  simp only [List.getD_eq_getElem?_getD, List.getElem?_eq_getElem h', Option.getD_some] at hf
  exact List.all_eq_false.2 ⟨l[k], List.getElem_mem h', by simp [hf]⟩
theorem qdy {α : Type} {f : α → Bool} {l : List α} {k : Nat} (h : ¬ (k : Int) < l.length) (hf : (l.take k).all f = true) : l.all f = true := by
  rwa [List.take_of_length_le (by omega)] at hf
theorem qcb {a b : Int} {A B : Prop} (h1 : a = b → A) (h2 : ¬ a = b → B) : ((a == b) = true → A) ∧ ((a == b) = false → B) := ⟨fun h => h1 (by simpa using h), fun h => h2 (by simpa using h)⟩
theorem qd9 {a b : Int} {A B : Prop} (h1 : ¬ a = b → A) (h2 : a = b → B) : ((a == b) = false → A) ∧ ((a == b) = true → B) := ⟨fun h => h1 (by simpa using h), fun h => h2 (by simpa using h)⟩
theorem qhh {a b : Int} {A B : Prop} (h1 : ¬ a = b → A) (h2 : a = b → B) : ((a != b) = true → A) ∧ ((a != b) = false → B) := ⟨fun h => h1 (by simpa using h), fun h => h2 (by simpa using h)⟩
theorem sp_n' {a b : Int} {A B : Prop} (h1 : a = b → A) (h2 : ¬ a = b → B) : ((a != b) = false → A) ∧ ((a != b) = true → B) := ⟨fun h => h1 (by simpa using h), fun h => h2 (by simpa using h)⟩
theorem qbq {a b : Int} {A B : Prop} (hn : ¬ a = b) (h2 : B) : ((a == b) = true → A) ∧ ((a == b) = false → B) := ⟨fun h => (hn (by simpa using h)).elim, fun _ => h2⟩
theorem sp_eT {a : Int} {A B : Prop} (h1 : A) : ((a == a) = true → A) ∧ ((a == a) = false → B) := ⟨fun _ => h1, fun h => (by simp at h)⟩
theorem qe4 {p A B : Prop} [Decidable p] (hn : ¬ p) (h2 : B) : (decide p = true → A) ∧ (decide p = false → B) := ⟨fun h => (hn (of_decide_eq_true h)).elim, fun _ => h2⟩
theorem qel {p A B : Prop} [Decidable p] (hn : p) (h2 : A) : (decide p = true → A) ∧ (decide p = false → B) := ⟨fun _ => h2, fun h => (of_decide_eq_false h hn).elim⟩
def inP (n lo hi : Int) : Bool := decide (lo ≤ n) && decide (n ≤ hi)
def qoc (n : Int) : Bool := inP n 0 3
def wordP (w a : Int) : Bool := inP w 1 16 && inP a 0 (2 ^ w.toNat - 1)
theorem shl1 {w : Int} (h : inP w 1 16 = true) : IntKind.i64.wrap (1 * 2 ^ min w.toNat IntKind.i64.bits) = 2 ^ w.toNat := by
  have h' : w.toNat < 17 := by simp [inP] at h; omega
  revert h'
  generalize w.toNat = k
  intro h
  have : ∀ k < 17, IntKind.i64.wrap (1 * 2 ^ min k IntKind.i64.bits) = 2 ^ k := by decide
  exact this k h
theorem uw {w : Int} (h : inP w 1 16 = true) : IntKind.u64.wrap w = w := by
  simp [inP] at h
  have h' : w.toNat < 17 := by omega
  have e : w = (w.toNat : Int) := by omega
  rw [e]
  revert h'
  generalize w.toNat = k
  intro h
  have : ∀ k < 17, IntKind.u64.wrap ((k : Nat) : Int) = k := by decide
  exact this k h
theorem top1 {w : Int} (h : inP w 1 16 = true) : IntKind.i64.wrap (2 ^ w.toNat - 1) = 2 ^ w.toNat - 1 := by
  have h' : w.toNat < 17 := by simp [inP] at h; omega
  revert h'
  generalize w.toNat = k
  intro h
  have : ∀ k < 17, IntKind.i64.wrap ((2 : Int) ^ k - 1) = 2 ^ k - 1 := by decide
  exact this k h
theorem s_l01In (n lo hi : Int) : CallsV Tryz.prog 38 [.dat (.i n), .dat (.i lo), .dat (.i hi)] (.dat (.bool (inP n lo hi))) := by
  refine CallsV.of_awp qaf qag Tryz.func38 rfl rfl rfl ?_
  conv => whnf
  repeat' (first | ((with_reducible first | refine fun (K1 : AX → AState → Prop) hK => ?_ | (show K1 _ _; subst hK) | refine sp_T ?_ | refine sp_F ?_); conv => whnf) | ((with_reducible refine qbe (fun h => ?_) (fun h => ?_)) <;> first | contradiction | (subst h; conv => whnf) | (conv => whnf)) | (refine ⟨(rfl : qac _ = true), rfl, ?_⟩; conv => whnf))
  all_goals (repeat (clear hK; clear K1))
  all_goals simp [inP, *]
theorem s_l05Reg (n : Int) : CallsV Tryz.prog 98 [.dat (.i n)] (.dat (.bool (qoc n))) := by
  refine CallsV.of_awp qaf qag Tryz.func98 rfl rfl rfl ?_
  conv => whnf
  repeat' (first | ((with_reducible first | refine fun (K1 : AX → AState → Prop) hK => ?_ | (show K1 _ _; subst hK)); conv => whnf) | (refine ⟨(rfl : qac _ = true), rfl, ?_⟩; conv => whnf) | ((with_reducible refine pcI (g := 38) ?_); refine ⟨_, s_l01In .., rfl, ?_⟩; rotate_right; conv => whnf))
  all_goals (repeat (clear hK; clear K1))
  all_goals first | rfl | assumption | exact Bool.noConfusion (h.symm.trans hp) | (simp_all []; done) | grind [] | (simp_all []; omega)
theorem qdp (w a : Int) : CallsV Tryz.prog 74 [.dat (.i w), .dat (.i a)] (.dat (.bool (wordP w a))) := by
  refine CallsV.of_awp qaf qag Tryz.func74 rfl rfl rfl ?_
  conv => whnf
  repeat' (first | ((with_reducible first | refine fun (K1 : AX → AState → Prop) hK => ?_ | (show K1 _ _; subst hK) | refine sp_T ?_ | refine sp_F ?_); conv => whnf) | ((with_reducible refine qdl (fun h => ?_) (fun h => ?_)) <;> first | contradiction | (conv => whnf)) | (refine ⟨(rfl : qac _ = true), rfl, ?_⟩; conv => whnf) | ((with_reducible refine qad ?_ ?_); conv => whnf) | ((with_reducible refine pcI (g := 38) ?_); refine ⟨_, s_l01In .., rfl, ?_⟩; rotate_right; conv => whnf))
  all_goals (repeat (clear hK; clear K1))
  · have h1 := h
    simp only [wordP, h1, shl1 h1, top1 h1, Bool.true_and]
  · have h1 := h
    simp [inP] at h1; omega
  · simp only [wordP, h, Bool.false_and]
theorem i_shapeOk (w a : Int) : CallsV Tryz.prog 83 [.dat (.i w), .dat (.i a)] (.dat (.bool (inP w 2 8 && inP a 1 40))) := by
  refine CallsV.of_awp qaf qag Tryz.func83 rfl rfl rfl ?_
  conv => whnf
  repeat' (first | ((with_reducible first | refine fun (K1 : AX → AState → Prop) hK => ?_ | (show K1 _ _; subst hK) | refine sp_T ?_ | refine sp_F ?_); conv => whnf) | ((with_reducible refine qbe (fun h => ?_) (fun h => ?_)) <;> first | contradiction | (subst h; conv => whnf) | (conv => whnf)) | (refine ⟨(rfl : qac _ = true), rfl, ?_⟩; conv => whnf))
  all_goals (repeat (clear hK; clear K1))
  all_goals first | rfl | assumption | exact Bool.noConfusion (h.symm.trans hp) | (simp_all [inP]; done) | grind [inP] | (simp_all [inP]; omega)
theorem i_isWidth (w : Int) : CallsV Tryz.prog 102 [.dat (.i w)] (.dat (.bool (inP w 1 16))) := by
  refine CallsV.of_awp qaf qag Tryz.func102 rfl rfl rfl ?_
  conv => whnf
  repeat' (first | ((with_reducible first | refine fun (K1 : AX → AState → Prop) hK => ?_ | (show K1 _ _; subst hK) | refine sp_T ?_ | refine sp_F ?_); conv => whnf) | ((with_reducible refine qbe (fun h => ?_) (fun h => ?_)) <;> first | contradiction | (subst h; conv => whnf) | (conv => whnf)) | (refine ⟨(rfl : qac _ = true), rfl, ?_⟩; conv => whnf))
  all_goals (repeat (clear hK; clear K1))
  all_goals first | rfl | assumption | exact Bool.noConfusion (h.symm.trans hp) | (simp_all [inP]; done) | grind [inP] | (simp_all [inP]; omega)
theorem qnh (w : Int) : CallsV Tryz.prog 104 [.dat (.i w)] (.dat (.bool (inP w 3 16))) := by
  refine CallsV.of_awp qaf qag Tryz.func104 rfl rfl rfl ?_
  conv => whnf
  repeat' (first | ((with_reducible first | refine fun (K1 : AX → AState → Prop) hK => ?_ | (show K1 _ _; subst hK) | refine sp_T ?_ | refine sp_F ?_); conv => whnf) | ((with_reducible refine qbe (fun h => ?_) (fun h => ?_)) <;> first | contradiction | (subst h; conv => whnf) | (conv => whnf)) | (refine ⟨(rfl : qac _ = true), rfl, ?_⟩; conv => whnf))
  all_goals (repeat (clear hK; clear K1))
  all_goals first | rfl | assumption | exact Bool.noConfusion (h.symm.trans hp) | (simp_all [inP]; done) | grind [inP] | (simp_all [inP]; omega)
theorem i_isReg (w : Int) : CallsV Tryz.prog 103 [.dat (.i w)] (.dat (.bool (qoc w))) := by
  refine CallsV.of_awp qaf qag Tryz.func103 rfl rfl rfl ?_
  conv => whnf
  repeat' (first | ((with_reducible first | refine fun (K1 : AX → AState → Prop) hK => ?_ | (show K1 _ _; subst hK) | refine sp_T ?_ | refine sp_F ?_); conv => whnf) | ((with_reducible refine qbe (fun h => ?_) (fun h => ?_)) <;> first | contradiction | (subst h; conv => whnf) | (conv => whnf)) | (refine ⟨(rfl : qac _ = true), rfl, ?_⟩; conv => whnf))
  all_goals (repeat (clear hK; clear K1))
  all_goals first | rfl | assumption | exact Bool.noConfusion (h.symm.trans hp) | (simp_all [inP, qoc]; done) | grind [inP, qoc] | (simp_all [inP, qoc]; omega)
theorem qdi (w a : Int) : CallsV Tryz.prog 84 [.dat (.i w), .dat (.i a)] (.dat (.bool (wordP w a))) := by
  refine CallsV.of_awp qaf qag Tryz.func84 rfl rfl rfl ?_
  conv => whnf
  repeat' (first | ((with_reducible first | refine fun (K1 : AX → AState → Prop) hK => ?_ | (show K1 _ _; subst hK) | refine sp_T ?_ | refine sp_F ?_); conv => whnf) | ((with_reducible refine qbe (fun h => ?_) (fun h => ?_)) <;> first | contradiction | (subst h; conv => whnf) | (conv => whnf)) | ((with_reducible refine qdl (fun h => ?_) (fun h => ?_)) <;> first | contradiction | (conv => whnf)) | (refine ⟨(rfl : qac _ = true), rfl, ?_⟩; conv => whnf) | ((with_reducible refine qad ?_ ?_); conv => whnf) | ((with_reducible refine pcI (g := 102) ?_); refine ⟨_, i_isWidth .., rfl, ?_⟩; rotate_right; conv => whnf))
  all_goals (repeat (clear hK; clear K1))
  · rename_i h1
    have e := uw h1
    have e2 := shl1 h1
    have ha : 0 ≤ a := h
    rw [e, e2]
    simp only [wordP, h1, Bool.true_and]
    simp only [inP, decide_eq_true ha, Bool.true_and]
    exact congrArg Dat.bool (decide_eq_decide.2 (by omega))
  · rename_i h1
    rw [uw h1]
    simp [inP] at h1; omega
  · have ha : ¬ 0 ≤ a := h
    simp [wordP, inP, ha]
  · simp only [wordP, h, Bool.false_and]
end Vg

namespace Vg
open Go Go.Proofs
set_option maxRecDepth 100000
set_option maxHeartbeats 40000000
def qfs (i : V.Ins) (w size : Int) : Bool :=
  if i.op = 1 then qoc i.a && wordP w i.b && decide (i.c = 0)
  else if i.op = 2 ∨ i.op = 7 ∨ i.op = 8 then qoc i.a && qoc i.b && decide (i.c = 0)
  else if i.op = 3 then qoc i.a && qoc i.b && inP i.c 3 16
  else if i.op = 4 ∨ i.op = 5 ∨ i.op = 6 ∨ i.op = 13 then qoc i.a && decide (i.b = 0) && decide (i.c = 0)
  else if i.op = 9 ∨ i.op = 11 then decide (i.a = 0) && inP i.b 0 size && decide (i.c = 0)
  else if i.op = 10 then qoc i.a && inP i.b 0 size && decide (i.c = 0)
  else if i.op = 12 ∨ i.op = 14 then decide (i.a = 0) && decide (i.b = 0) && decide (i.c = 0)
  else false
theorem s_l05Ins (op a b c w size : Int) : CallsV Tryz.prog 75 [.agg [.dat (.i op), .dat (.i a), .dat (.i b), .dat (.i c)], .dat (.i w), .dat (.i size)] (.dat (.bool (qfs ⟨op, a, b, c⟩ w size))) := by
  refine CallsV.of_awp qaf qag Tryz.func75 rfl rfl rfl ?_
  conv => whnf
  repeat' (first | ((with_reducible first | refine fun (K1 : AX → AState → Prop) hK => ?_ | (show K1 _ _; subst hK) | refine sp_T ?_ | refine sp_F ?_ | refine sp_eT ?_); conv => whnf) | ((with_reducible refine qcb (fun h => ?_) (fun h => ?_)) <;> first | contradiction | (subst h; conv => whnf) | (conv => whnf)) | ((with_reducible refine qdl (fun h => ?_) (fun h => ?_)) <;> first | contradiction | (conv => whnf)) | (refine ⟨(rfl : qac _ = true), rfl, ?_⟩; conv => whnf) | ((first | ((with_reducible refine pcI (g := 38) ?_); refine ⟨_, s_l01In .., rfl, ?_⟩) | ((with_reducible refine pcI (g := 98) ?_); refine ⟨_, s_l05Reg .., rfl, ?_⟩) | ((with_reducible refine pcI (g := 74) ?_); refine ⟨_, qdp .., rfl, ?_⟩)); rotate_right; conv => whnf))
  all_goals (repeat (clear hK; clear K1))
  all_goals first | (simp [qfs, *]; done) | (simp [qfs, *]; rfl)
theorem i_insOk (op a b c w size : Int) : CallsV Tryz.prog 85 [.agg [.dat (.i op), .dat (.i a), .dat (.i b), .dat (.i c)], .dat (.i w), .dat (.i size)] (.dat (.bool (qfs ⟨op, a, b, c⟩ w size))) := by
  refine CallsV.of_awp qaf qag Tryz.func85 rfl rfl rfl ?_
  conv => whnf
  repeat' (first | ((with_reducible first | refine fun (K1 : AX → AState → Prop) hK => ?_ | (show K1 _ _; subst hK) | refine sp_T ?_ | refine sp_F ?_); conv => whnf) | ((with_reducible refine qbe (fun h => ?_) (fun h => ?_)) <;> first | contradiction | (subst h; conv => whnf) | (conv => whnf)) | ((with_reducible refine sp_eT ?_); conv => whnf) | ((with_reducible first | refine qcb (fun h => ?_) (fun h => ?_) | refine qhh (fun h => ?_) (fun h => ?_)) <;> first | contradiction | (subst h; conv => whnf) | (conv => whnf)) | ((with_reducible refine qdl (fun h => ?_) (fun h => ?_)) <;> first | contradiction | (conv => whnf)) | (refine ⟨(rfl : qac _ = true), rfl, ?_⟩; conv => whnf) | ((first | ((with_reducible refine pcI (g := 103) ?_); refine ⟨_, i_isReg .., rfl, ?_⟩) | ((with_reducible refine pcI (g := 104) ?_); refine ⟨_, qnh .., rfl, ?_⟩) | ((with_reducible refine pcI (g := 84) ?_); refine ⟨_, qdi .., rfl, ?_⟩)); rotate_right; conv => whnf))
  all_goals (repeat (clear hK; clear K1))
  all_goals first | (simp [qfs, inP, *]; done) | (simp [qfs, *]; rfl)
def qci (p : V.Prog) : Bool :=
  inP p.w 2 8 && inP p.mem 1 6 && wordP p.w p.mem && inP p.inn 0 3 && inP p.code.length 1 40 && p.code.all fun i => qfs i p.w p.code.length
theorem qf6 (w mem inn : Int) (code : List V.Ins) : CallsV Tryz.prog 37 [.agg [.dat (.i w), .dat (.i mem), .dat (.i inn), .dat (.seq .inss code)]] (.dat (.bool (qci ⟨w, mem, inn, code⟩))) := by
  refine CallsV.of_awp qaf qag Tryz.func37 rfl rfl rfl ?_
  conv => whnf
  repeat' (first | ((with_reducible first | refine fun (K1 : AX → AState → Prop) hK => ?_ | (show K1 _ _; subst hK)); conv => whnf) | (with_reducible exact rfl) | ((with_reducible first | refine sp_T ?_ | refine sp_T' ?_ | refine sp_F' ?_); conv => whnf) | ((with_reducible refine qbe (fun h => ?_) (fun h => ?_)) <;> first | contradiction | (subst h; conv => whnf) | (conv => whnf)) | ((with_reducible first | refine qbt (fun h => ?_) (fun h => ?_) | refine qcq (fun h => ?_) (fun h => ?_)) <;> first | contradiction | (conv => whnf)) | (refine ⟨(rfl : qac _ = true), rfl, ?_⟩; conv => whnf) | (with_reducible refine qbn ?_ ?_) | ((with_reducible refine qad ?_ ?_); conv => whnf) | (refine Exists.intro ({k : Nat // (code.take k).all (fun i => qfs i w code.length) = true}) (Exists.intro (fun ⟨k, hall⟩ => mkS Tryz.f37.ntmps [(1, .ptr 1 0), (37, .dat (.seq .inss code)), (38, .dat (.i code.length)), (39, .dat (.i k))] [(1, .box [.dat (.i w), .dat (.i mem), .dat (.i inn), .dat (.seq .inss code)])]) (Exists.intro (fun ⟨k, hall⟩ => code.length - k) (Exists.intro ⟨0, rfl⟩ (And.intro (SubP.sub (σ := [(1, some 1)]) ⟨⟨rfl, rfl, rfl⟩, ⟨⟨rfl, rfl⟩, (qab ?_), (qab ?_), (qab ?_), trivial⟩, ⟨⟨(qaa ?_), (qaa ?_), (qaa ?_), (qaa ?_), trivial⟩, trivial⟩⟩) (fun ⟨k, hall⟩ => ?_))))); rotate_right; conv => whnf) | (refine Exists.intro ⟨k + 1, ?_⟩ (And.intro ?_ (SubP.sub (σ := [(1, some 1)]) ⟨⟨rfl, rfl, rfl⟩, ⟨⟨rfl, rfl⟩, (qab ?_), (qab ?_), (qab ?_), trivial⟩, ⟨⟨(qaa ?_), (qaa ?_), (qaa ?_), (qaa ?_), trivial⟩, trivial⟩⟩))) | ((first | ((with_reducible refine pcI (g := 38) ?_); refine ⟨_, s_l01In .., rfl, ?_⟩) | ((with_reducible refine pcI (g := 74) ?_); refine ⟨_, qdp .., rfl, ?_⟩) | ((with_reducible refine pcI (g := 75) ?_); refine ⟨_, s_l05Ins .., rfl, ?_⟩)); rotate_right; conv => whnf) | (intro h; conv => whnf))
  all_goals (repeat (clear hK; clear K1))
  all_goals first | rfl | assumption | omega | (dsimp only; omega) | exact congrArg (Dat.int .i64) (qa1 (by assumption) (by assumption)).symm | (simp [qci, *]; done) | (rw [qdj K.inss.dflt (by assumption), hall]; exact h) | (simp only [qci]; rw [qhd (f := fun i => qfs i w code.length) (by assumption) h, Bool.and_false]) | (simp only [qci]; rw [qdy h hall]; simp [*])
theorem qou (w mem inn : Int) (code : List V.Ins) : CallsV Tryz.prog 56 [.agg [.dat (.i w), .dat (.i mem), .dat (.i inn), .dat (.seq .inss code)]] (.dat (.bool (qci ⟨w, mem, inn, code⟩))) := by
  refine CallsV.of_awp qaf qag Tryz.func56 rfl rfl rfl ?_
  conv => whnf
  repeat' (first | ((with_reducible first | refine fun (K1 : AX → AState → Prop) hK => ?_ | (show K1 _ _; subst hK)); conv => whnf) | (with_reducible exact rfl) | ((with_reducible first | refine sp_T ?_ | refine sp_T' ?_ | refine sp_F' ?_); conv => whnf) | ((with_reducible first | refine qbe (fun h => ?_) (fun h => ?_) | refine qj3 (fun h => ?_) (fun h => ?_)) <;> first | contradiction | (subst h; conv => whnf) | (conv => whnf)) | ((with_reducible first | refine qbt (fun h => ?_) (fun h => ?_) | refine qcq (fun h => ?_) (fun h => ?_)) <;> first | contradiction | (conv => whnf)) | (refine ⟨(rfl : qac _ = true), rfl, ?_⟩; conv => whnf) | (with_reducible refine qbn ?_ ?_) | ((with_reducible refine qad ?_ ?_); conv => whnf) | (refine Exists.intro ({k : Nat // (code.take k).all (fun i => qfs i w code.length) = true}) (Exists.intro (fun ⟨k, hall⟩ => mkS Tryz.f56.ntmps [(1, .ptr 1 0), (39, .dat (.seq .inss code)), (40, .dat (.i code.length)), (41, .dat (.i k))] [(1, .box [.dat (.i w), .dat (.i mem), .dat (.i inn), .dat (.seq .inss code)])]) (Exists.intro (fun ⟨k, hall⟩ => code.length - k) (Exists.intro ⟨0, rfl⟩ (And.intro (SubP.sub (σ := [(1, some 1)]) ⟨⟨rfl, rfl, rfl⟩, ⟨⟨rfl, rfl⟩, (qab ?_), (qab ?_), (qab ?_), trivial⟩, ⟨⟨(qaa ?_), (qaa ?_), (qaa ?_), (qaa ?_), trivial⟩, trivial⟩⟩) (fun ⟨k, hall⟩ => ?_))))); rotate_right; conv => whnf) | (refine Exists.intro ⟨k + 1, ?_⟩ (And.intro ?_ (SubP.sub (σ := [(1, some 1)]) ⟨⟨rfl, rfl, rfl⟩, ⟨⟨rfl, rfl⟩, (qab ?_), (qab ?_), (qab ?_), trivial⟩, ⟨⟨(qaa ?_), (qaa ?_), (qaa ?_), (qaa ?_), trivial⟩, trivial⟩⟩))) | ((first | ((with_reducible refine pcI (g := 83) ?_); refine ⟨_, i_shapeOk .., rfl, ?_⟩) | ((with_reducible refine pcI (g := 84) ?_); refine ⟨_, qdi .., rfl, ?_⟩) | ((with_reducible refine pcI (g := 85) ?_); refine ⟨_, i_insOk .., rfl, ?_⟩)); rotate_right; conv => whnf) | (intro h; conv => whnf))
  all_goals (repeat (clear hK; clear K1))
  all_goals first | rfl | assumption | omega | (dsimp only; omega) | exact congrArg (Dat.int .i64) (qa1 (by assumption) (by assumption)).symm | (simp [qci, *]; done) | (rw [qdj K.inss.dflt (by assumption), hall]; exact h) | (simp only [qci]; rw [qhd (f := fun i => qfs i w code.length) (by assumption) h, Bool.and_false]) | (simp only [qci]; rw [qdy h hall]; clear hall h; simp_all [inP] <;> omega) | (simp_all [qci, inP]; omega)
end Vg

namespace Vg
open Go Go.Proofs
set_option maxRecDepth 100000
set_option maxHeartbeats 40000000
theorem qoa {T : Nat} {κ : K} {l l' : List κ.T} {sh : Bool} (h : l = l') : [Blk.row T κ l sh] = [Blk.row T κ l' sh] := by rw [h]
theorem qli {κ : K} {l l' : List κ.T} (h : l = l') : (⟨κ, l⟩ : (κ : K) × List κ.T) = ⟨κ, l'⟩ := by rw [h]
theorem qlj {α : Type} {a : List α} {k : Nat} (d z : α) (h : (k : Int) < a.length) : (a.take k ++ List.replicate (a.length - k) z).set k (a.getD k d) = a.take (k + 1) ++ List.replicate (a.length - (k + 1)) z := by
  have h' : k < a.length := by omega
  apply List.ext_getElem?
  intro i
  simp only [List.getElem?_set, List.getElem?_append, List.length_take, List.getElem?_take, List.getElem?_replicate, List.length_append, List.length_replicate, List.getD_eq_getElem?_getD]
  rcases Nat.lt_trichotomy i k with h1 | h1 | h1
  · simp [show ¬ k = i from by omega, show i < min k a.length from by omega, show i < min (k + 1) a.length from by omega, show i < k from h1, show i < k + 1 from by omega]
  · subst h1
    simp [h', show i < min (i + 1) a.length from by omega, show i < min i a.length + (a.length - i) from by omega]
  · simp [show ¬ k = i from by omega, show ¬ i < min k a.length from by omega, show ¬ i < min (k + 1) a.length from by omega]
    have e1 : min k a.length = k := by omega
    have e2 : min (k + 1) a.length = k + 1 := by omega
    simp only [e1, e2]
    by_cases h2 : i - k < a.length - k
    · simp [h2, show i - (k + 1) < a.length - (k + 1) from by omega]
    · simp [h2, show ¬ i - (k + 1) < a.length - (k + 1) from by omega]
theorem qij {α : Type} {a : List α} {k : Nat} {z : α} (h : ¬ (k : Int) < a.length) : a.take k ++ List.replicate (a.length - k) z = a := by
  rw [List.take_of_length_le (by omega), show a.length - k = 0 from by omega]; simp
theorem qcz {α : Type} {a b : List α} {k : Nat} (d : α) (h : (k : Int) < a.length) (hl : a.length = b.length) (hk : a.take k = b.take k) (he : a.getD k d = b.getD k d) : a.take (k + 1) = b.take (k + 1) := by
  have h1 : k < a.length := by omega
  have h2 : k < b.length := by omega
  rw [List.take_succ_eq_append_getElem h1, List.take_succ_eq_append_getElem h2, hk]
  simp only [List.getD_eq_getElem?_getD, List.getElem?_eq_getElem h1, List.getElem?_eq_getElem h2, Option.getD_some] at he
  rw [he]
theorem qhm {α : Type} {a b : List α} {k : Nat} {d : α} (he : ¬ a.getD k d = b.getD k d) : ¬ a = b := fun e => he (by rw [e])
theorem qdg {α : Type} {a b : List α} {k : Nat} (h : ¬ (k : Int) < a.length) (hl : a.length = b.length) (hk : a.take k = b.take k) : a = b := by
  rwa [List.take_of_length_le (by omega), List.take_of_length_le (by omega)] at hk
theorem l_toIns (op a b c : Int) : CallsV Tryz.prog 76 [.agg [.dat (.i op), .dat (.i a), .dat (.i b), .dat (.i c)]] (.agg [.dat (.i op), .dat (.i a), .dat (.i b), .dat (.i c)]) := by
  refine CallsV.of_awp qaf qag Tryz.func76 rfl rfl rfl ?_
  conv => whnf
  repeat' (first | ((with_reducible first | refine fun (K1 : AX → AState → Prop) hK => ?_ | (show K1 _ _; subst hK)); conv => whnf) | (refine ⟨(rfl : qac _ = true), rfl, ?_⟩; conv => whnf) | ((with_reducible refine qad ?_ ?_); conv => whnf))
  all_goals (repeat (clear hK; clear K1))
  all_goals first | rfl | assumption | exact Bool.noConfusion (h.symm.trans hp) | (simp_all []; done) | grind [] | (simp_all []; omega)
theorem lf_toInsS (a : List V.Ins) (hl : a.length ≤ 1048576) : CallsF Tryz.prog 39 [.dat (.seq .inss a)] true (fun res B => res = .row 0 ∧ B = [.row 91 .inss a false]) := by
  refine CallsF.of_awp qaf qag Tryz.func39 rfl rfl rfl ?_
  conv => whnf
  repeat' (first | ((with_reducible first | refine fun (K1 : AX → AState → Prop) hK => ?_ | (show K1 _ _; subst hK)); conv => whnf) | (with_reducible exact rfl) | ((with_reducible refine qbe (fun h => ?_) (fun h => ?_)) <;> first | contradiction | (subst h; conv => whnf) | (conv => whnf)) | (refine ⟨(rfl : qac _ = true), rfl, ?_⟩; conv => whnf) | (with_reducible refine qbn ?_ ?_) | (with_reducible refine qdv ?_ ?_) | ((with_reducible refine qad ?_ ?_); conv => whnf) | (refine Exists.intro ({k : Nat // k ≤ a.length}) (Exists.intro (fun ⟨k, hk⟩ => mkS Tryz.f39.ntmps [(0, .dat (.seq .inss a)), (3, .row 7), (4, .dat (.i k))] [(7, .row 91 .inss (a.take k ++ List.replicate (a.length - k) ⟨0, 0, 0, 0⟩) false)]) (Exists.intro (fun ⟨k, hk⟩ => a.length - k) (Exists.intro ⟨0, Nat.zero_le _⟩ (And.intro (SubP.sub (σ := [(7, some 7)]) ⟨⟨rfl, rfl, rfl⟩, ⟨(qab ?_), rfl, (qab ?_), trivial⟩, ⟨⟨⟨rfl, rfl⟩, ?_⟩, trivial⟩⟩) (fun ⟨k, hk⟩ => ?_))))); rotate_right; conv => whnf) | (refine Exists.intro ⟨k + 1, ?_⟩ (And.intro ?_ (SubP.sub (σ := [(7, some 7)]) ⟨⟨rfl, rfl, rfl⟩, ⟨(qab ?_), rfl, (qab ?_), trivial⟩, ⟨⟨⟨rfl, rfl⟩, ?_⟩, trivial⟩⟩))) | ((with_reducible refine pcI (g := 76) ?_); refine ⟨_, l_toIns .., rfl, ?_⟩; rotate_right; conv => whnf) | (intro h; conv => whnf))
  all_goals (repeat (clear hK; clear K1))
  all_goals first | rfl | assumption | omega | (dsimp only; omega) | exact congrArg (Dat.int .i64) (qa1 (by assumption) (by assumption)).symm | exact qli (qlj K.inss.dflt ⟨0, 0, 0, 0⟩ (by assumption)).symm | (simp; omega) | exact qoa (qij h) | (show (_ : Int) * ((32 : Nat) : Int) ≤ _; omega)
theorem l_toProgram (w mem inn : Int) (a : List V.Ins) (hl : a.length ≤ 1048576) : CallsV Tryz.prog 12 [.agg [.dat (.i w), .dat (.i mem), .dat (.i inn), .dat (.seq .inss a)]] (.agg [.dat (.i w), .dat (.i mem), .dat (.i inn), .dat (.seq .inss a)]) := by
  refine CallsV.of_awp qaf qag Tryz.func12 rfl rfl rfl ?_
  conv => whnf
  repeat' (first | ((with_reducible first | refine fun (K1 : AX → AState → Prop) hK => ?_ | (show K1 _ _; subst hK)); conv => whnf) | (refine ⟨(rfl : qac _ = true), rfl, ?_⟩; conv => whnf) | ((with_reducible refine qad ?_ ?_); conv => whnf) | ((with_reducible refine fcI (g := 39) ?_); refine ⟨_, _, lf_toInsS (hl := ?_) .., rfl, fun res B hRB => ?_⟩; rotate_right; obtain ⟨rfl, rfl⟩ := hRB; conv => whnf))
  all_goals (repeat (clear hK; clear K1))
  all_goals first | rfl | assumption | exact Bool.noConfusion (h.symm.trans hp) | (simp_all []; done) | grind [] | (simp_all []; omega)
theorem l_szInsS (a : List V.Ins) (left : Int) (h0 : 0 ≤ left) (h1 : left ≤ 1048576) : CallsV Tryz.prog 36 [.dat (.seq .inss a), .dat (.i left)] (.dat (.i (if left - a.length < 0 then -1 else left - a.length))) := by
  refine CallsV.of_awp qaf qag Tryz.func36 rfl rfl rfl ?_
  conv => whnf
  repeat' (first | ((with_reducible first | refine fun (K1 : AX → AState → Prop) hK => ?_ | (show K1 _ _; subst hK)); conv => whnf) | ((with_reducible refine qbe (fun h => ?_) (fun h => ?_)) <;> first | contradiction | (subst h; conv => whnf) | (conv => whnf)) | (refine ⟨(rfl : qac _ = true), rfl, ?_⟩; conv => whnf) | (intro h; conv => whnf))
  all_goals (repeat (clear hK; clear K1))
  all_goals
    have hm : maxLen = 9223372036854775807 := rfl
    rw [qah (by omega) (by omega)] at *
    simp [h]
theorem qom (w mem inn : Int) (a : List V.Ins) (left : Int) (h0 : 0 ≤ left) (h1 : left ≤ 1048576) : CallsV Tryz.prog 10 [.agg [.dat (.i w), .dat (.i mem), .dat (.i inn), .dat (.seq .inss a)], .dat (.i left)] (.dat (.i (if left - a.length < 0 then -1 else left - a.length))) := by
  refine CallsV.of_awp qaf qag Tryz.func10 rfl rfl rfl ?_
  conv => whnf
  repeat' (first | ((with_reducible first | refine fun (K1 : AX → AState → Prop) hK => ?_ | (show K1 _ _; subst hK)); conv => whnf) | ((with_reducible refine qbe (fun h => ?_) (fun h => ?_)) <;> first | contradiction | (subst h; conv => whnf) | (conv => whnf)) | (refine ⟨(rfl : qac _ = true), rfl, ?_⟩; conv => whnf) | ((with_reducible refine pcI (g := 36) ?_); refine ⟨_, l_szInsS (h0 := ?_) (h1 := ?_) .., rfl, ?_⟩; rotate_right; conv => whnf))
  all_goals (repeat (clear hK; clear K1))
  all_goals first | assumption | (split at h <;> simp_all; done)
theorem l_eqIns (op a b c op' a' b' c' : Int) : CallsV Tryz.prog 78 [.agg [.dat (.i op), .dat (.i a), .dat (.i b), .dat (.i c)], .agg [.dat (.i op'), .dat (.i a'), .dat (.i b'), .dat (.i c')]] (.dat (.bool (decide ((⟨op, a, b, c⟩ : V.Ins) = ⟨op', a', b', c'⟩)))) := by
  refine CallsV.of_awp qaf qag Tryz.func78 rfl rfl rfl ?_
  conv => whnf
  repeat' (first | ((with_reducible first | refine fun (K1 : AX → AState → Prop) hK => ?_ | (show K1 _ _; subst hK)); conv => whnf) | ((with_reducible refine qhh (fun h => ?_) (fun h => ?_)) <;> first | contradiction | (subst h; conv => whnf) | (conv => whnf)) | (refine ⟨(rfl : qac _ = true), rfl, ?_⟩; conv => whnf))
  all_goals (repeat (clear hK; clear K1))
  all_goals first | rfl | assumption | exact Bool.noConfusion (h.symm.trans hp) | (simp_all []; done) | grind [] | (simp_all []; omega)
theorem l_eqInsS (a b : List V.Ins) : CallsV Tryz.prog 42 [.dat (.seq .inss a), .dat (.seq .inss b)] (.dat (.bool (decide (a = b)))) := by
  refine CallsV.of_awp qaf qag Tryz.func42 rfl rfl rfl ?_
  conv => whnf
  repeat' (first | ((with_reducible first | refine Alt.l ?_ | refine fun (K1 : AX → AState → Prop) hK => ?_ | (show K1 _ _; subst hK)); conv => whnf) | (with_reducible exact rfl) | ((with_reducible first | refine qbe (fun h => ?_) (fun h => ?_) | refine qhh (fun h => ?_) (fun h => ?_)) <;> first | contradiction | (subst h; conv => whnf) | (conv => whnf)) | ((with_reducible refine qbt (fun h => ?_) (fun h => ?_)) <;> first | contradiction | (conv => whnf)) | (refine ⟨(rfl : qac _ = true), rfl, ?_⟩; conv => whnf) | (with_reducible refine qbn ?_ ?_) | ((with_reducible refine qad ?_ ?_); conv => whnf) | (refine Exists.intro ({k : Nat // a.take k = b.take k}) (Exists.intro (fun ⟨k, hk⟩ => mkS Tryz.f42.ntmps [(0, .dat (.seq .inss a)), (1, .dat (.seq .inss b)), (5, .dat (.i k))] []) (Exists.intro (fun ⟨k, hk⟩ => a.length - k) (Exists.intro ⟨0, rfl⟩ (And.intro (SubP.sub (σ := []) ⟨⟨rfl, rfl, rfl⟩, ⟨(qab ?_), (qab ?_), (qab ?_), trivial⟩, trivial⟩) (fun ⟨k, hk⟩ => ?_))))); rotate_right; conv => whnf) | (refine Exists.intro ⟨k + 1, ?_⟩ (And.intro ?_ (SubP.sub (σ := []) ⟨⟨rfl, rfl, rfl⟩, ⟨(qab ?_), (qab ?_), (qab ?_), trivial⟩, trivial⟩))) | ((with_reducible show Exists _); refine Exists.intro _ (And.intro (l_eqIns ..) (And.intro rfl ?_)); rotate_right; conv => whnf) | (intro h; conv => whnf))
  all_goals (repeat (clear hK; clear K1))
  all_goals first | rfl | assumption | omega | (dsimp only; omega) | exact congrArg (Dat.int .i64) (qa1 (by assumption) (by assumption)).symm | exact congrArg Dat.bool (decide_eq_false (fun e => h (by rw [e]))) | exact qcz K.inss.dflt (by assumption) (by omega) hk (of_decide_eq_true h) | exact congrArg Dat.bool (decide_eq_false (qhm (of_decide_eq_false h))) | exact congrArg Dat.bool (decide_eq_true (qdg (by assumption) (by omega) hk))
theorem l_eqProgram (w mem inn : Int) (a : List V.Ins) (w' mem' inn' : Int) (a' : List V.Ins) : CallsV Tryz.prog 15 [.agg [.dat (.i w), .dat (.i mem), .dat (.i inn), .dat (.seq .inss a)], .agg [.dat (.i w'), .dat (.i mem'), .dat (.i inn'), .dat (.seq .inss a')]] (.dat (.bool (decide ((⟨w, mem, inn, a⟩ : V.Prog) = ⟨w', mem', inn', a'⟩)))) := by
  refine CallsV.of_awp qaf qag Tryz.func15 rfl rfl rfl ?_
  conv => whnf
  repeat' (first | ((with_reducible first | refine fun (K1 : AX → AState → Prop) hK => ?_ | (show K1 _ _; subst hK)); conv => whnf) | ((with_reducible refine qhh (fun h => ?_) (fun h => ?_)) <;> first | contradiction | (subst h; conv => whnf) | (conv => whnf)) | ((with_reducible refine qbt (fun h => ?_) (fun h => ?_)) <;> first | contradiction | (conv => whnf)) | (refine ⟨(rfl : qac _ = true), rfl, ?_⟩; conv => whnf) | ((with_reducible refine pcI (g := 42) ?_); refine ⟨_, l_eqInsS .., rfl, ?_⟩; rotate_right; conv => whnf))
  all_goals (repeat (clear hK; clear K1))
  all_goals first | rfl | assumption | exact Bool.noConfusion (h.symm.trans hp) | (simp_all []; done) | grind [] | (simp_all []; omega)
end Vg

namespace Vg
open Go Go.Proofs
set_option maxRecDepth 100000 in
theorem i_onesOf (w : Int) (hw : inP w 1 16 = true) : CallsV Tryz.prog 212 [.dat (.i w)] (.dat (.i (2 ^ w.toNat - 1))) := by
  refine CallsV.of_awp qaf qag Tryz.func212 rfl rfl rfl ?_
  conv => whnf
  repeat' (first | ((with_reducible first | refine fun (K1 : AX → AState → Prop) hK => ?_ | (show K1 _ _; subst hK)); conv => whnf) | (refine ⟨(rfl : qac _ = true), rfl, ?_⟩; conv => whnf) | ((with_reducible refine qad ?_ ?_); conv => whnf))
  all_goals (repeat (clear hK; clear K1))
  · rw [uw hw, shl1 hw, top1 hw]
  · rw [uw hw]; simp [inP] at hw; omega
theorem progP_w {p : V.Prog} (h : qci p = true) : inP p.w 1 16 = true := by
  simp [qci, inP] at h
  simp [inP]; omega
end Vg
