/- The table of types of the program. No condition. -/
import Derived.Test.YtgbjdifegilniaaGreatDoorTy
import Derived.Test.YtgbjdifegilniaaGreatDoorProg
import Derived.Shelf.Small.Strs
import Derived.Shelf.Strconv.Itoa3
import Derived.Shelf.Strconv.AtoiAll
import Derived.Shelf.Strings.Cut
import Derived.Shelf.Strings.BuilderF
import Derived.Shelf.Strings.OnBuilder
import Derived.Shelf.Strings.Split
namespace Vg
open Go Go.Proofs
set_option maxRecDepth 100000
set_option maxHeartbeats 40000000
def ty3 : TyI := ⟨false, 1, 8, [.int .i64 0], [.int .i64 0], .int .i64⟩
def ty4 : TyI := ⟨false, 1, 1, [.bool false], [.bool false], .bool⟩
def ty50 : TyI := ⟨true, 4, 32, [.int .i64 0, .int .i64 0, .int .i64 0, .int .i64 0], [.int .i64 0, .int .i64 0, .int .i64 0, .int .i64 0], .flds [(0, 3), (1, 3), (2, 3), (3, 3)]⟩
def ty34 : TyI := ⟨true, 4, 48, [.int .i64 0, .int .i64 0, .int .i64 0, .slice none 0 0], [.int .i64 0, .int .i64 0, .int .i64 0, .seq .inss []], .flds [(0, 3), (1, 3), (2, 3), (3, 32)]⟩
def ty2 : TyI := ⟨false, 1, 8, [.int .i64 0], [.int .i64 0], .int .i64⟩
def ty5 : TyI := ⟨false, 1, 1, [.int .u8 0], [.int .u8 0], .int .u8⟩
def ty6 : TyI := ⟨false, 1, 1, [.int .u8 0], [.int .u8 0], .int .u8⟩
def ty7 : TyI := ⟨true, 4, 24, [.int .i64 0, .int .i64 0, .bool false, .int .u8 0], [.int .i64 0, .int .i64 0, .bool false, .int .u8 0], .flds [(0, 2), (1, 3), (2, 4), (3, 6)]⟩
def ty8 : TyI := ⟨true, 4, 24, [.int .i64 0, .int .i64 0, .bool false, .int .u8 0], [.int .i64 0, .int .i64 0, .bool false, .int .u8 0], .flds [(0, 2), (1, 3), (2, 4), (3, 6)]⟩
def ty9 : TyI := ⟨false, 1, 16, [.string ByteArray.empty], [.str ByteArray.empty], .str⟩
def ty10 : TyI := ⟨false, 1, 16, [.string ByteArray.empty], [.str ByteArray.empty], .str⟩
def ty11 : TyI := ⟨false, 1, 16, [.string ByteArray.empty], [.str ByteArray.empty], .str⟩
def ty12 : TyI := ⟨false, 1, 8, [.int .u64 0], [.int .u64 0], .int .u64⟩
def ty13 : TyI := ⟨true, 2, 24, [.string ByteArray.empty, .int .u64 0], [.str ByteArray.empty, .int .u64 0], .flds [(0, 9), (1, 12)]⟩
def ty14 : TyI := ⟨true, 2, 24, [.string ByteArray.empty, .int .u64 0], [.str ByteArray.empty, .int .u64 0], .flds [(0, 9), (1, 12)]⟩
def ty20 : TyI := ⟨false, 1, 16, [.nilIface], [.err false], .iface⟩
def ty21 : TyI := ⟨false, 1, 4, [.int .i32 0], [.int .i32 0], .int .i32⟩
def ty22 : TyI := ⟨false, 1, 24, [.slice none 0 0], [.seq .bytes []], .slice 5 .bytes⟩
def ty23 : TyI := ⟨false, 1, 24, [.slice none 0 0], [.seq .terms []], .slice 25 .terms⟩
def ty24 : TyI := ⟨true, 5, 64, [.int .i64 0, .int .i64 0, .int .i64 0, .string ByteArray.empty, .slice none 0 0], [.int .i64 0, .int .i64 0, .int .i64 0, .str ByteArray.empty, .seq .terms []], .flds [(0, 3), (1, 3), (2, 3), (3, 9), (4, 23)]⟩
def ty25 : TyI := ⟨true, 5, 64, [.int .i64 0, .int .i64 0, .int .i64 0, .string ByteArray.empty, .slice none 0 0], [.int .i64 0, .int .i64 0, .int .i64 0, .str ByteArray.empty, .seq .terms []], .flds [(0, 3), (1, 3), (2, 3), (3, 9), (4, 23)]⟩
def ty28 : TyI := ⟨false, 1, 24, [.slice none 0 0], [.seq .intss []], .slice 47 .intss⟩
def ty29 : TyI := ⟨true, 2, 32, [.int .i64 0, .slice none 0 0], [.int .i64 0, .seq .intss []], .flds [(0, 3), (1, 28)]⟩
def ty30 : TyI := ⟨true, 2, 32, [.int .i64 0, .slice none 0 0], [.int .i64 0, .seq .intss []], .flds [(0, 3), (1, 28)]⟩
def ty32 : TyI := ⟨false, 1, 24, [.slice none 0 0], [.seq .inss []], .slice 50 .inss⟩
def ty33 : TyI := ⟨true, 4, 48, [.int .i64 0, .int .i64 0, .int .i64 0, .slice none 0 0], [.int .i64 0, .int .i64 0, .int .i64 0, .seq .inss []], .flds [(0, 3), (1, 3), (2, 3), (3, 32)]⟩
def ty47 : TyI := ⟨false, 1, 24, [.slice none 0 0], [.seq .ints []], .slice 3 .ints⟩
def ty49 : TyI := ⟨true, 4, 32, [.int .i64 0, .int .i64 0, .int .i64 0, .int .i64 0], [.int .i64 0, .int .i64 0, .int .i64 0, .int .i64 0], .flds [(0, 3), (1, 3), (2, 3), (3, 3)]⟩
def ty66 : TyI := ⟨false, 1, 24, [.slice none 0 0], [.seq .vals []], .slice 112 .vals⟩
def ty69 : TyI := ⟨true, 3, 32, [.string ByteArray.empty, .int .i64 0, .int .i64 0], [.str ByteArray.empty, .int .i64 0, .int .i64 0], .flds [(0, 9), (1, 3), (2, 3)]⟩
def ty70 : TyI := ⟨true, 3, 32, [.string ByteArray.empty, .int .i64 0, .int .i64 0], [.str ByteArray.empty, .int .i64 0, .int .i64 0], .flds [(0, 9), (1, 3), (2, 3)]⟩
def ty74 : TyI := ⟨true, 2, 32, [.pointer none, .slice none 0 0], [], .flds [(0, 72), (1, 22)]⟩
def ty78 : TyI := ⟨false, 1, 24, [.slice none 0 0], [.seq .strs []], .slice 9 .strs⟩
def ty85 : TyI := ⟨false, 1, 16, [.nilIface], [.err false], .iface⟩
def ty86 : TyI := ⟨false, 1, 16, [.nilIface], [.err false], .iface⟩
def ty104 : TyI := ⟨true, 3, 40, [.slice none 0 0, .int .i64 0, .int .i64 0], [.seq .bytes [], .int .i64 0, .int .i64 0], .flds [(0, 22), (1, 3), (2, 3)]⟩
def ty105 : TyI := ⟨true, 3, 40, [.slice none 0 0, .int .i64 0, .int .i64 0], [.seq .bytes [], .int .i64 0, .int .i64 0], .flds [(0, 22), (1, 3), (2, 3)]⟩
def ty111 : TyI := ⟨true, 3, 32, [.string ByteArray.empty, .int .i64 0, .int .i64 0], [.str ByteArray.empty, .int .i64 0, .int .i64 0], .flds [(0, 9), (1, 3), (2, 3)]⟩
def ty112 : TyI := ⟨true, 3, 32, [.string ByteArray.empty, .int .i64 0, .int .i64 0], [.str ByteArray.empty, .int .i64 0, .int .i64 0], .flds [(0, 9), (1, 3), (2, 3)]⟩
def ty118 : TyI := ⟨false, 1, 8, [.map none], [], .map⟩
def ty119 : TyI := ⟨true, 2, 16, [.int .i64 0, .map none], [], .flds [(0, 3), (1, 118)]⟩
def ty120 : TyI := ⟨true, 2, 16, [.int .i64 0, .map none], [], .flds [(0, 3), (1, 118)]⟩
def ty126 : TyI := ⟨false, 1, 8, [.int .u64 0], [.int .u64 0], .int .u64⟩
def ty141 : TyI := ⟨false, 1, 8, [.int .i64 0], [.int .i64 0], .int .i64⟩
def ty148 : TyI := ⟨false, 1, 8, [.int .u64 0], [.int .u64 0], .int .u64⟩
def ty152 : TyI := ⟨true, 3, 48, [.string ByteArray.empty, .string ByteArray.empty, .nilIface], [.str ByteArray.empty, .str ByteArray.empty, .err false], .flds [(0, 9), (1, 9), (2, 86)]⟩
def ty153 : TyI := ⟨true, 3, 48, [.string ByteArray.empty, .string ByteArray.empty, .nilIface], [.str ByteArray.empty, .str ByteArray.empty, .err false], .flds [(0, 9), (1, 9), (2, 86)]⟩
def ty162 : TyI := ⟨true, 2, 2, [.int .u8 0, .int .u8 0], [.int .u8 0, .int .u8 0], .flds [(0, 5), (1, 5)]⟩
def ty163 : TyI := ⟨true, 2, 2, [.int .u8 0, .int .u8 0], [.int .u8 0, .int .u8 0], .flds [(0, 5), (1, 5)]⟩
def ty165 : TyI := ⟨false, 1, 4, [.int .u32 0], [.int .u32 0], .int .u32⟩
def ty170 : TyI := ⟨true, 1, 16, [.string ByteArray.empty], [.str ByteArray.empty], .flds [(0, 9)]⟩
def ty171 : TyI := ⟨true, 1, 16, [.string ByteArray.empty], [.str ByteArray.empty], .flds [(0, 9)]⟩
def ty185 : TyI := ⟨false, 1, 1, [.int .u8 0], [.int .u8 0], .int .u8⟩
def ty186 : TyI := ⟨false, 1, 1, [.int .u8 0], [.int .u8 0], .int .u8⟩
def ty188 : TyI := ⟨false, 1, 4, [.int .i32 0], [.int .i32 0], .int .i32⟩
def ty189 : TyI := ⟨false, 1, 4, [.int .i32 0], [.int .i32 0], .int .i32⟩
def tauL : List (Nat × TyI) := [(3, ty3), (4, ty4), (50, ty50), (34, ty34), (2, ty2), (5, ty5), (6, ty6), (7, ty7), (8, ty8), (9, ty9), (10, ty10), (11, ty11), (12, ty12), (13, ty13), (14, ty14), (20, ty20), (21, ty21), (22, ty22), (23, ty23), (24, ty24), (25, ty25), (28, ty28), (29, ty29), (30, ty30), (32, ty32), (33, ty33), (47, ty47), (49, ty49), (66, ty66), (69, ty69), (70, ty70), (74, ty74), (78, ty78), (85, ty85), (86, ty86), (104, ty104), (105, ty105), (111, ty111), (112, ty112), (118, ty118), (119, ty119), (120, ty120), (126, ty126), (141, ty141), (148, ty148), (152, ty152), (153, ty153), (162, ty162), (163, ty163), (165, ty165), (170, ty170), (171, ty171), (185, ty185), (186, ty186), (188, ty188), (189, ty189)]
def tau : Tys := lL tauL
theorem tyOk3 : TyOk Tryz.prog 3 ty3 := .of _ _ rfl rfl rfl rfl rfl (.inr rfl) rfl rfl _ rfl rfl rfl
theorem tyOk4 : TyOk Tryz.prog 4 ty4 := .of _ _ rfl rfl rfl rfl rfl (.inr rfl) rfl rfl _ rfl rfl rfl
theorem tyOk50 : TyOk Tryz.prog 50 ty50 := .of _ _ rfl rfl rfl rfl rfl (.inr rfl) rfl rfl _ rfl rfl ⟨_, rfl, rfl⟩
theorem tyOk34 : TyOk Tryz.prog 34 ty34 := .of _ _ rfl rfl rfl rfl rfl (.inr rfl) rfl rfl _ rfl rfl ⟨_, rfl, rfl⟩
theorem tyOk2 : TyOk Tryz.prog 2 ty2 := .of _ _ rfl rfl rfl rfl rfl (.inr rfl) rfl rfl _ rfl rfl rfl
theorem tyOk5 : TyOk Tryz.prog 5 ty5 := .of _ _ rfl rfl rfl rfl rfl (.inr rfl) rfl rfl _ rfl rfl rfl
theorem tyOk6 : TyOk Tryz.prog 6 ty6 := .of _ _ rfl rfl rfl rfl rfl (.inr rfl) rfl rfl _ rfl rfl rfl
theorem tyOk7 : TyOk Tryz.prog 7 ty7 := .of _ _ rfl rfl rfl rfl rfl (.inr rfl) rfl rfl _ rfl rfl ⟨_, rfl, rfl⟩
theorem tyOk8 : TyOk Tryz.prog 8 ty8 := .of _ _ rfl rfl rfl rfl rfl (.inr rfl) rfl rfl _ rfl rfl ⟨_, rfl, rfl⟩
theorem tyOk9 : TyOk Tryz.prog 9 ty9 := .of _ _ rfl rfl rfl rfl rfl (.inr rfl) rfl rfl _ rfl rfl rfl
theorem tyOk10 : TyOk Tryz.prog 10 ty10 := .of _ _ rfl rfl rfl rfl rfl (.inr rfl) rfl rfl _ rfl rfl rfl
theorem tyOk11 : TyOk Tryz.prog 11 ty11 := .of _ _ rfl rfl rfl rfl rfl (.inr rfl) rfl rfl _ rfl rfl rfl
theorem tyOk12 : TyOk Tryz.prog 12 ty12 := .of _ _ rfl rfl rfl rfl rfl (.inr rfl) rfl rfl _ rfl rfl rfl
theorem tyOk13 : TyOk Tryz.prog 13 ty13 := .of _ _ rfl rfl rfl rfl rfl (.inr rfl) rfl rfl _ rfl rfl ⟨_, rfl, rfl⟩
theorem tyOk14 : TyOk Tryz.prog 14 ty14 := .of _ _ rfl rfl rfl rfl rfl (.inr rfl) rfl rfl _ rfl rfl ⟨_, rfl, rfl⟩
theorem tyOk20 : TyOk Tryz.prog 20 ty20 := .of _ _ rfl rfl rfl rfl rfl (.inr rfl) rfl rfl _ rfl rfl ⟨_, rfl⟩
theorem tyOk21 : TyOk Tryz.prog 21 ty21 := .of _ _ rfl rfl rfl rfl rfl (.inr rfl) rfl rfl _ rfl rfl rfl
theorem tyOk22 : TyOk Tryz.prog 22 ty22 := .of _ _ rfl rfl rfl rfl rfl (.inr rfl) rfl rfl _ rfl rfl rfl
theorem tyOk23 : TyOk Tryz.prog 23 ty23 := .of _ _ rfl rfl rfl rfl rfl (.inr rfl) rfl rfl _ rfl rfl rfl
theorem tyOk24 : TyOk Tryz.prog 24 ty24 := .of _ _ rfl rfl rfl rfl rfl (.inr rfl) rfl rfl _ rfl rfl ⟨_, rfl, rfl⟩
theorem tyOk25 : TyOk Tryz.prog 25 ty25 := .of _ _ rfl rfl rfl rfl rfl (.inr rfl) rfl rfl _ rfl rfl ⟨_, rfl, rfl⟩
theorem tyOk28 : TyOk Tryz.prog 28 ty28 := .of _ _ rfl rfl rfl rfl rfl (.inr rfl) rfl rfl _ rfl rfl rfl
theorem tyOk29 : TyOk Tryz.prog 29 ty29 := .of _ _ rfl rfl rfl rfl rfl (.inr rfl) rfl rfl _ rfl rfl ⟨_, rfl, rfl⟩
theorem tyOk30 : TyOk Tryz.prog 30 ty30 := .of _ _ rfl rfl rfl rfl rfl (.inr rfl) rfl rfl _ rfl rfl ⟨_, rfl, rfl⟩
theorem tyOk32 : TyOk Tryz.prog 32 ty32 := .of _ _ rfl rfl rfl rfl rfl (.inr rfl) rfl rfl _ rfl rfl rfl
theorem tyOk33 : TyOk Tryz.prog 33 ty33 := .of _ _ rfl rfl rfl rfl rfl (.inr rfl) rfl rfl _ rfl rfl ⟨_, rfl, rfl⟩
theorem tyOk47 : TyOk Tryz.prog 47 ty47 := .of _ _ rfl rfl rfl rfl rfl (.inr rfl) rfl rfl _ rfl rfl rfl
theorem tyOk49 : TyOk Tryz.prog 49 ty49 := .of _ _ rfl rfl rfl rfl rfl (.inr rfl) rfl rfl _ rfl rfl ⟨_, rfl, rfl⟩
theorem tyOk66 : TyOk Tryz.prog 66 ty66 := .of _ _ rfl rfl rfl rfl rfl (.inr rfl) rfl rfl _ rfl rfl rfl
theorem tyOk69 : TyOk Tryz.prog 69 ty69 := .of _ _ rfl rfl rfl rfl rfl (.inr rfl) rfl rfl _ rfl rfl ⟨_, rfl, rfl⟩
theorem tyOk70 : TyOk Tryz.prog 70 ty70 := .of _ _ rfl rfl rfl rfl rfl (.inr rfl) rfl rfl _ rfl rfl ⟨_, rfl, rfl⟩
theorem tyOk74 : TyOk Tryz.prog 74 ty74 := .of _ _ rfl rfl rfl rfl rfl (.inl rfl) rfl rfl _ rfl rfl ⟨_, rfl, rfl⟩
theorem tyOk78 : TyOk Tryz.prog 78 ty78 := .of _ _ rfl rfl rfl rfl rfl (.inr rfl) rfl rfl _ rfl rfl rfl
theorem tyOk85 : TyOk Tryz.prog 85 ty85 := .of _ _ rfl rfl rfl rfl rfl (.inr rfl) rfl rfl _ rfl rfl ⟨_, rfl⟩
theorem tyOk86 : TyOk Tryz.prog 86 ty86 := .of _ _ rfl rfl rfl rfl rfl (.inr rfl) rfl rfl _ rfl rfl ⟨_, rfl⟩
theorem tyOk104 : TyOk Tryz.prog 104 ty104 := .of _ _ rfl rfl rfl rfl rfl (.inr rfl) rfl rfl _ rfl rfl ⟨_, rfl, rfl⟩
theorem tyOk105 : TyOk Tryz.prog 105 ty105 := .of _ _ rfl rfl rfl rfl rfl (.inr rfl) rfl rfl _ rfl rfl ⟨_, rfl, rfl⟩
theorem tyOk111 : TyOk Tryz.prog 111 ty111 := .of _ _ rfl rfl rfl rfl rfl (.inr rfl) rfl rfl _ rfl rfl ⟨_, rfl, rfl⟩
theorem tyOk112 : TyOk Tryz.prog 112 ty112 := .of _ _ rfl rfl rfl rfl rfl (.inr rfl) rfl rfl _ rfl rfl ⟨_, rfl, rfl⟩
theorem tyOk118 : TyOk Tryz.prog 118 ty118 := .of _ _ rfl rfl rfl rfl rfl (.inl rfl) rfl rfl _ rfl rfl ⟨_, _, rfl, rfl, fun _ => rfl⟩
theorem tyOk119 : TyOk Tryz.prog 119 ty119 := .of _ _ rfl rfl rfl rfl rfl (.inl rfl) rfl rfl _ rfl rfl ⟨_, rfl, rfl⟩
theorem tyOk120 : TyOk Tryz.prog 120 ty120 := .of _ _ rfl rfl rfl rfl rfl (.inl rfl) rfl rfl _ rfl rfl ⟨_, rfl, rfl⟩
theorem tyOk126 : TyOk Tryz.prog 126 ty126 := .of _ _ rfl rfl rfl rfl rfl (.inr rfl) rfl rfl _ rfl rfl rfl
theorem tyOk141 : TyOk Tryz.prog 141 ty141 := .of _ _ rfl rfl rfl rfl rfl (.inr rfl) rfl rfl _ rfl rfl rfl
theorem tyOk148 : TyOk Tryz.prog 148 ty148 := .of _ _ rfl rfl rfl rfl rfl (.inr rfl) rfl rfl _ rfl rfl rfl
theorem tyOk152 : TyOk Tryz.prog 152 ty152 := .of _ _ rfl rfl rfl rfl rfl (.inr rfl) rfl rfl _ rfl rfl ⟨_, rfl, rfl⟩
theorem tyOk153 : TyOk Tryz.prog 153 ty153 := .of _ _ rfl rfl rfl rfl rfl (.inr rfl) rfl rfl _ rfl rfl ⟨_, rfl, rfl⟩
theorem tyOk162 : TyOk Tryz.prog 162 ty162 := .of _ _ rfl rfl rfl rfl rfl (.inr rfl) rfl rfl _ rfl rfl ⟨_, rfl, rfl⟩
theorem tyOk163 : TyOk Tryz.prog 163 ty163 := .of _ _ rfl rfl rfl rfl rfl (.inr rfl) rfl rfl _ rfl rfl ⟨_, rfl, rfl⟩
theorem tyOk165 : TyOk Tryz.prog 165 ty165 := .of _ _ rfl rfl rfl rfl rfl (.inr rfl) rfl rfl _ rfl rfl rfl
theorem tyOk170 : TyOk Tryz.prog 170 ty170 := .of _ _ rfl rfl rfl rfl rfl (.inr rfl) rfl rfl _ rfl rfl ⟨_, rfl, rfl⟩
theorem tyOk171 : TyOk Tryz.prog 171 ty171 := .of _ _ rfl rfl rfl rfl rfl (.inr rfl) rfl rfl _ rfl rfl ⟨_, rfl, rfl⟩
theorem tyOk185 : TyOk Tryz.prog 185 ty185 := .of _ _ rfl rfl rfl rfl rfl (.inr rfl) rfl rfl _ rfl rfl rfl
theorem tyOk186 : TyOk Tryz.prog 186 ty186 := .of _ _ rfl rfl rfl rfl rfl (.inr rfl) rfl rfl _ rfl rfl rfl
theorem tyOk188 : TyOk Tryz.prog 188 ty188 := .of _ _ rfl rfl rfl rfl rfl (.inr rfl) rfl rfl _ rfl rfl rfl
theorem tyOk189 : TyOk Tryz.prog 189 ty189 := .of _ _ rfl rfl rfl rfl rfl (.inr rfl) rfl rfl _ rfl rfl rfl
theorem lK : f5 Tryz.prog tau := sW ⟨tyOk3, tyOk4, tyOk50, tyOk34, tyOk2, tyOk5, tyOk6, tyOk7, tyOk8, tyOk9, tyOk10, tyOk11, tyOk12, tyOk13, tyOk14, tyOk20, tyOk21, tyOk22, tyOk23, tyOk24, tyOk25, tyOk28, tyOk29, tyOk30, tyOk32, tyOk33, tyOk47, tyOk49, tyOk66, tyOk69, tyOk70, tyOk74, tyOk78, tyOk85, tyOk86, tyOk104, tyOk105, tyOk111, tyOk112, tyOk118, tyOk119, tyOk120, tyOk126, tyOk141, tyOk148, tyOk152, tyOk153, tyOk162, tyOk163, tyOk165, tyOk170, tyOk171, tyOk185, tyOk186, tyOk188, tyOk189, trivial⟩
theorem yO : Tryz.prog.follows .mixedOrders = true := rfl
end Vg
namespace Go.Proofs
open Go.Shelf
def Tryz.lays156_ren : Go.Shelf.Ren := ⟨fun | 156 => 78 | 165 => 101 | 166 => 39 | 169 => 33 | 240 => 77 | 241 => 115 | 276 => 100 | 277 => 128 | n => n, fun | 31 => 78 | 9 => 9 | 3 => 3 | 4 => 4 | 0 => 0 | 20 => 20 | 72 => 74 | 76 => 87 | 70 => 72 | 37 => 22 | 75 => 86 | 127 => 121 | 164 => 134 | 5 => 5 | 80 => 76 | n => n, fun | n => n⟩
theorem Tryz.lays156 : Go.Proofs.Lays.n156 Tryz.prog Tryz.lays156_ren := {
  mixed := by kernel_rfl
  f156 := Tryz.func78.trans (congrArg some (by kernel_rfl))
  f165 := Tryz.func101.trans (congrArg some (by kernel_rfl))
  f166 := Tryz.func39.trans (congrArg some (by kernel_rfl))
  f169 := Tryz.func33.trans (congrArg some (by kernel_rfl))
  f240 := Tryz.func77.trans (congrArg some (by kernel_rfl))
  f241 := Tryz.func115.trans (congrArg some (by kernel_rfl))
  f276 := Tryz.func100.trans (congrArg some (by kernel_rfl))
  f277 := Tryz.func128.trans (congrArg some (by kernel_rfl))
  t0 := Tryz.underlying0
  a0 := Tryz.isAgg0
  z0 := Tryz.sizeOf0
  v0 := Tryz.zeroValue0
  t3 := Tryz.underlying3
  a3 := Tryz.isAgg3
  z3 := Tryz.sizeOf3
  v3 := Tryz.zeroValue3
  t4 := Tryz.underlying4
  a4 := Tryz.isAgg4
  z4 := Tryz.sizeOf4
  v4 := Tryz.zeroValue4
  t9 := Tryz.underlying9
  a9 := Tryz.isAgg9
  z9 := Tryz.sizeOf9
  v9 := Tryz.zeroValue9
  t20 := Tryz.underlying20
  a20 := Tryz.isAgg20
  z20 := Tryz.sizeOf20
  v20 := Tryz.zeroValue20
  t31 := Tryz.underlying78
  a31 := Tryz.isAgg78
  z31 := Tryz.sizeOf78
  v31 := Tryz.zeroValue78
  t37 := Tryz.underlying22
  a37 := Tryz.isAgg22
  z37 := Tryz.sizeOf22
  v37 := Tryz.zeroValue22
  t70 := Tryz.underlying72
  a70 := Tryz.isAgg72
  z70 := Tryz.sizeOf72
  v70 := Tryz.zeroValue72
  t72 := Tryz.underlying74
  a72 := Tryz.isAgg74
  z72 := Tryz.sizeOf74
  v72 := Tryz.zeroValue74
  t75 := Tryz.underlying86
  a75 := Tryz.isAgg86
  z75 := Tryz.sizeOf86
  v75 := Tryz.zeroValue86
  t76 := Tryz.underlying87
  a76 := Tryz.isAgg87
  z76 := Tryz.sizeOf87
  v76 := Tryz.zeroValue87
  t127 := Tryz.underlying121
  a127 := Tryz.isAgg121
  z127 := Tryz.sizeOf121
  v127 := Tryz.zeroValue121
  t164 := Tryz.underlying134
  a164 := Tryz.isAgg134
  z164 := Tryz.sizeOf134
  v164 := Tryz.zeroValue134 }
theorem Tryz.Builder_Extra_156 : Builder.Extra Tryz.prog Tryz.lays156_ren := {
  sizeBuilder := by kernel_rfl
  liesBuilder := by kernel_rfl
  t5 := Tryz.underlying5
  a5 := Tryz.isAgg5
  z5 := Tryz.sizeOf5
  v5 := Tryz.zeroValue5
  infoByte := by kernel_rfl
  cellsByte := by kernel_rfl
  sizeByte := by kernel_rfl
  neB5 := by decide }
def Tryz.lays169_ren : Go.Shelf.Ren := ⟨fun | 169 => 33 | n => n, fun | 70 => 72 | 9 => 9 | 0 => 0 | 72 => 74 | 37 => 22 | 127 => 121 | 3 => 3 | 5 => 5 | n => n, fun | n => n⟩
theorem Tryz.lays169 : Go.Proofs.Lays.n169 Tryz.prog Tryz.lays169_ren := {
  mixed := by kernel_rfl
  f169 := Tryz.func33.trans (congrArg some (by kernel_rfl))
  t0 := Tryz.underlying0
  a0 := Tryz.isAgg0
  z0 := Tryz.sizeOf0
  v0 := Tryz.zeroValue0
  t3 := Tryz.underlying3
  a3 := Tryz.isAgg3
  z3 := Tryz.sizeOf3
  v3 := Tryz.zeroValue3
  t9 := Tryz.underlying9
  a9 := Tryz.isAgg9
  z9 := Tryz.sizeOf9
  v9 := Tryz.zeroValue9
  t37 := Tryz.underlying22
  a37 := Tryz.isAgg22
  z37 := Tryz.sizeOf22
  v37 := Tryz.zeroValue22
  t70 := Tryz.underlying72
  a70 := Tryz.isAgg72
  z70 := Tryz.sizeOf72
  v70 := Tryz.zeroValue72
  t72 := Tryz.underlying74
  a72 := Tryz.isAgg74
  z72 := Tryz.sizeOf74
  v72 := Tryz.zeroValue74
  t127 := Tryz.underlying121
  a127 := Tryz.isAgg121
  z127 := Tryz.sizeOf121
  v127 := Tryz.zeroValue121 }
theorem Tryz.Builder_Extra_169 : Builder.Extra Tryz.prog Tryz.lays169_ren := {
  sizeBuilder := by kernel_rfl
  liesBuilder := by kernel_rfl
  t5 := Tryz.underlying5
  a5 := Tryz.isAgg5
  z5 := Tryz.sizeOf5
  v5 := Tryz.zeroValue5
  infoByte := by kernel_rfl
  cellsByte := by kernel_rfl
  sizeByte := by kernel_rfl
  neB5 := by decide }
def Tryz.laysM171_ren : Go.Shelf.Ren := ⟨fun | 171 => 75 | 243 => 97 | 246 => 113 | 283 => 124 | 284 => 125 | 285 => 126 | 286 => 127 | 129 => 134 | 317 => 133 | 318 => 135 | 319 => 136 | 320 => 137 | 337 => 138 | 338 => 139 | n => n, fun | 3 => 3 | 9 => 9 | 2 => 2 | 4 => 4 | 171 => 155 | 0 => 0 | 53 => 148 | 37 => 22 | 5 => 5 | 173 => 158 | 212 => 173 | 51 => 165 | 20 => 20 | 213 => 174 | 46 => 126 | 232 => 177 | 233 => 178 | n => n, fun | 17 => 5 | 18 => 6 | 19 => 7 | n => n⟩
theorem Tryz.laysM171 : Go.Proofs.LaysM.n171 Tryz.prog Tryz.laysM171_ren := {
  mixed := by kernel_rfl
  f129 := Tryz.func134.trans (congrArg some (by kernel_rfl))
  f171 := Tryz.func75.trans (congrArg some (by kernel_rfl))
  f243 := Tryz.func97.trans (congrArg some (by kernel_rfl))
  f246 := Tryz.func113.trans (congrArg some (by kernel_rfl))
  f283 := Tryz.func124.trans (congrArg some (by kernel_rfl))
  f284 := Tryz.func125.trans (congrArg some (by kernel_rfl))
  f285 := Tryz.func126.trans (congrArg some (by kernel_rfl))
  f286 := Tryz.func127.trans (congrArg some (by kernel_rfl))
  f317 := Tryz.func133.trans (congrArg some (by kernel_rfl))
  f318 := Tryz.func135.trans (congrArg some (by kernel_rfl))
  f319 := Tryz.func136.trans (congrArg some (by kernel_rfl))
  f320 := Tryz.func137.trans (congrArg some (by kernel_rfl))
  f337 := Tryz.func138.trans (congrArg some (by kernel_rfl))
  f338 := Tryz.func139.trans (congrArg some (by kernel_rfl))
  t0 := Tryz.underlying0
  a0 := Tryz.isAgg0
  z0 := Tryz.sizeOf0
  v0 := Tryz.zeroValue0
  t2 := Tryz.underlying2
  a2 := Tryz.isAgg2
  z2 := Tryz.sizeOf2
  v2 := Tryz.zeroValue2
  t3 := Tryz.underlying3
  a3 := Tryz.isAgg3
  z3 := Tryz.sizeOf3
  v3 := Tryz.zeroValue3
  t4 := Tryz.underlying4
  a4 := Tryz.isAgg4
  z4 := Tryz.sizeOf4
  v4 := Tryz.zeroValue4
  t5 := Tryz.underlying5
  a5 := Tryz.isAgg5
  z5 := Tryz.sizeOf5
  v5 := Tryz.zeroValue5
  t9 := Tryz.underlying9
  a9 := Tryz.isAgg9
  z9 := Tryz.sizeOf9
  v9 := Tryz.zeroValue9
  t20 := Tryz.underlying20
  a20 := Tryz.isAgg20
  z20 := Tryz.sizeOf20
  v20 := Tryz.zeroValue20
  t37 := Tryz.underlying22
  a37 := Tryz.isAgg22
  z37 := Tryz.sizeOf22
  v37 := Tryz.zeroValue22
  t46 := Tryz.underlying126
  a46 := Tryz.isAgg126
  z46 := Tryz.sizeOf126
  v46 := Tryz.zeroValue126
  t51 := Tryz.underlying165
  a51 := Tryz.isAgg165
  z51 := Tryz.sizeOf165
  v51 := Tryz.zeroValue165
  t53 := Tryz.underlying148
  a53 := Tryz.isAgg148
  z53 := Tryz.sizeOf148
  v53 := Tryz.zeroValue148
  t171 := Tryz.underlying155
  a171 := Tryz.isAgg155
  z171 := Tryz.sizeOf155
  v171 := Tryz.zeroValue155
  t173 := Tryz.underlying158
  a173 := Tryz.isAgg158
  z173 := Tryz.sizeOf158
  v173 := Tryz.zeroValue158
  t212 := Tryz.underlying173
  a212 := Tryz.isAgg173
  z212 := Tryz.sizeOf173
  v212 := Tryz.zeroValue173
  t213 := Tryz.underlying174
  a213 := Tryz.isAgg174
  z213 := Tryz.sizeOf174
  t232 := Tryz.underlying177
  a232 := Tryz.isAgg177
  z232 := Tryz.sizeOf177
  v232 := Tryz.zeroValue177
  t233 := Tryz.underlying178
  a233 := Tryz.isAgg178
  z233 := Tryz.sizeOf178
  v233 := Tryz.zeroValue178
  g17 := by kernel_rfl
  g18 := by kernel_rfl
  g19 := by kernel_rfl
  i0 := by kernel_rfl
  i2 := by kernel_rfl
  i3 := by kernel_rfl
  i4 := by kernel_rfl
  i5 := by kernel_rfl
  i9 := by kernel_rfl
  i20 := by kernel_rfl
  i37 := by kernel_rfl
  i46 := by kernel_rfl
  i51 := by kernel_rfl
  i53 := by kernel_rfl
  i171 := by kernel_rfl
  i173 := by kernel_rfl
  i212 := by kernel_rfl
  i232 := by kernel_rfl
  i233 := by kernel_rfl
  m17 := by kernel_rfl
  m18 := by kernel_rfl
  m19 := by kernel_rfl }
def Tryz.laysC172_ren : Go.Shelf.Ren := ⟨fun | 172 => 74 | 244 => 95 | 245 => 96 | 247 => 108 | 279 => 109 | 280 => 110 | 281 => 111 | 282 => 112 | 287 => 121 | 316 => 122 | 171 => 75 | 205 => 123 | 321 => 131 | 322 => 132 | 243 => 97 | 246 => 113 | 283 => 124 | 284 => 125 | 285 => 126 | 286 => 127 | 129 => 134 | 317 => 133 | 318 => 135 | 319 => 136 | 320 => 137 | 337 => 138 | 338 => 139 | n => n, fun | 9 => 9 | 3 => 3 | 75 => 86 | 76 => 87 | 4 => 4 | 5 => 5 | 167 => 141 | 37 => 22 | 0 => 0 | 85 => 142 | 2 => 2 | 168 => 144 | 53 => 148 | 175 => 149 | 46 => 126 | 210 => 153 | 127 => 121 | 145 => 171 | 143 => 169 | 21 => 21 | 171 => 155 | 173 => 158 | 212 => 173 | 51 => 165 | 20 => 20 | 213 => 174 | 232 => 177 | 233 => 178 | 80 => 76 | n => n, fun | 15 => 1 | 16 => 2 | 17 => 5 | 18 => 6 | 19 => 7 | n => n⟩
theorem Tryz.laysC172 : Go.Proofs.LaysC.n172 Tryz.prog Tryz.laysC172_ren := {
  mixed := by kernel_rfl
  f129 := Tryz.func134.trans (congrArg some (by kernel_rfl))
  f171 := Tryz.func75.trans (congrArg some (by kernel_rfl))
  f172 := Tryz.func74.trans (congrArg some (by kernel_rfl))
  f205 := Tryz.func123.trans (congrArg some (by kernel_rfl))
  f243 := Tryz.func97.trans (congrArg some (by kernel_rfl))
  f244 := Tryz.func95.trans (congrArg some (by kernel_rfl))
  f245 := Tryz.func96.trans (congrArg some (by kernel_rfl))
  f246 := Tryz.func113.trans (congrArg some (by kernel_rfl))
  f247 := Tryz.func108.trans (congrArg some (by kernel_rfl))
  f279 := Tryz.func109.trans (congrArg some (by kernel_rfl))
  f280 := Tryz.func110.trans (congrArg some (by kernel_rfl))
  f281 := Tryz.func111.trans (congrArg some (by kernel_rfl))
  f282 := Tryz.func112.trans (congrArg some (by kernel_rfl))
  f283 := Tryz.func124.trans (congrArg some (by kernel_rfl))
  f284 := Tryz.func125.trans (congrArg some (by kernel_rfl))
  f285 := Tryz.func126.trans (congrArg some (by kernel_rfl))
  f286 := Tryz.func127.trans (congrArg some (by kernel_rfl))
  f287 := Tryz.func121.trans (congrArg some (by kernel_rfl))
  f316 := Tryz.func122.trans (congrArg some (by kernel_rfl))
  f317 := Tryz.func133.trans (congrArg some (by kernel_rfl))
  f318 := Tryz.func135.trans (congrArg some (by kernel_rfl))
  f319 := Tryz.func136.trans (congrArg some (by kernel_rfl))
  f320 := Tryz.func137.trans (congrArg some (by kernel_rfl))
  f321 := Tryz.func131.trans (congrArg some (by kernel_rfl))
  f322 := Tryz.func132.trans (congrArg some (by kernel_rfl))
  f337 := Tryz.func138.trans (congrArg some (by kernel_rfl))
  f338 := Tryz.func139.trans (congrArg some (by kernel_rfl))
  t0 := Tryz.underlying0
  a0 := Tryz.isAgg0
  z0 := Tryz.sizeOf0
  v0 := Tryz.zeroValue0
  t2 := Tryz.underlying2
  a2 := Tryz.isAgg2
  z2 := Tryz.sizeOf2
  v2 := Tryz.zeroValue2
  t3 := Tryz.underlying3
  a3 := Tryz.isAgg3
  z3 := Tryz.sizeOf3
  v3 := Tryz.zeroValue3
  t4 := Tryz.underlying4
  a4 := Tryz.isAgg4
  z4 := Tryz.sizeOf4
  v4 := Tryz.zeroValue4
  t5 := Tryz.underlying5
  a5 := Tryz.isAgg5
  z5 := Tryz.sizeOf5
  v5 := Tryz.zeroValue5
  t9 := Tryz.underlying9
  a9 := Tryz.isAgg9
  z9 := Tryz.sizeOf9
  v9 := Tryz.zeroValue9
  t20 := Tryz.underlying20
  a20 := Tryz.isAgg20
  z20 := Tryz.sizeOf20
  v20 := Tryz.zeroValue20
  t21 := Tryz.underlying21
  a21 := Tryz.isAgg21
  z21 := Tryz.sizeOf21
  v21 := Tryz.zeroValue21
  t37 := Tryz.underlying22
  a37 := Tryz.isAgg22
  z37 := Tryz.sizeOf22
  v37 := Tryz.zeroValue22
  t46 := Tryz.underlying126
  a46 := Tryz.isAgg126
  z46 := Tryz.sizeOf126
  v46 := Tryz.zeroValue126
  t51 := Tryz.underlying165
  a51 := Tryz.isAgg165
  z51 := Tryz.sizeOf165
  v51 := Tryz.zeroValue165
  t53 := Tryz.underlying148
  a53 := Tryz.isAgg148
  z53 := Tryz.sizeOf148
  v53 := Tryz.zeroValue148
  t75 := Tryz.underlying86
  a75 := Tryz.isAgg86
  z75 := Tryz.sizeOf86
  v75 := Tryz.zeroValue86
  t76 := Tryz.underlying87
  a76 := Tryz.isAgg87
  z76 := Tryz.sizeOf87
  v76 := Tryz.zeroValue87
  t85 := Tryz.underlying142
  a85 := Tryz.isAgg142
  z85 := Tryz.sizeOf142
  v85 := Tryz.zeroValue142
  t127 := Tryz.underlying121
  a127 := Tryz.isAgg121
  z127 := Tryz.sizeOf121
  v127 := Tryz.zeroValue121
  t143 := Tryz.underlying169
  a143 := Tryz.isAgg169
  z143 := Tryz.sizeOf169
  v143 := Tryz.zeroValue169
  t145 := Tryz.underlying171
  a145 := Tryz.isAgg171
  z145 := Tryz.sizeOf171
  v145 := Tryz.zeroValue171
  t167 := Tryz.underlying141
  a167 := Tryz.isAgg141
  z167 := Tryz.sizeOf141
  v167 := Tryz.zeroValue141
  t168 := Tryz.underlying144
  a168 := Tryz.isAgg144
  z168 := Tryz.sizeOf144
  v168 := Tryz.zeroValue144
  t171 := Tryz.underlying155
  a171 := Tryz.isAgg155
  z171 := Tryz.sizeOf155
  v171 := Tryz.zeroValue155
  t173 := Tryz.underlying158
  a173 := Tryz.isAgg158
  z173 := Tryz.sizeOf158
  v173 := Tryz.zeroValue158
  t175 := Tryz.underlying149
  a175 := Tryz.isAgg149
  z175 := Tryz.sizeOf149
  v175 := Tryz.zeroValue149
  t210 := Tryz.underlying153
  a210 := Tryz.isAgg153
  z210 := Tryz.sizeOf153
  v210 := Tryz.zeroValue153
  t212 := Tryz.underlying173
  a212 := Tryz.isAgg173
  z212 := Tryz.sizeOf173
  v212 := Tryz.zeroValue173
  t213 := Tryz.underlying174
  a213 := Tryz.isAgg174
  z213 := Tryz.sizeOf174
  t232 := Tryz.underlying177
  a232 := Tryz.isAgg177
  z232 := Tryz.sizeOf177
  v232 := Tryz.zeroValue177
  t233 := Tryz.underlying178
  a233 := Tryz.isAgg178
  z233 := Tryz.sizeOf178
  v233 := Tryz.zeroValue178
  g15 := by kernel_rfl
  g16 := by kernel_rfl
  g17 := by kernel_rfl
  g18 := by kernel_rfl
  g19 := by kernel_rfl
  t80 := Tryz.underlying76
  a80 := Tryz.isAgg76
  z80 := Tryz.sizeOf76
  v80 := Tryz.zeroValue76
  i0 := by kernel_rfl
  i2 := by kernel_rfl
  i3 := by kernel_rfl
  i4 := by kernel_rfl
  i5 := by kernel_rfl
  i9 := by kernel_rfl
  i20 := by kernel_rfl
  i21 := by kernel_rfl
  i37 := by kernel_rfl
  i46 := by kernel_rfl
  i51 := by kernel_rfl
  i53 := by kernel_rfl
  i75 := by kernel_rfl
  i76 := by kernel_rfl
  i80 := by kernel_rfl
  i85 := by kernel_rfl
  i127 := by kernel_rfl
  i143 := by kernel_rfl
  i145 := by kernel_rfl
  i167 := by kernel_rfl
  i168 := by kernel_rfl
  i171 := by kernel_rfl
  i173 := by kernel_rfl
  i175 := by kernel_rfl
  i210 := by kernel_rfl
  i212 := by kernel_rfl
  i232 := by kernel_rfl
  i233 := by kernel_rfl
  m15 := by kernel_rfl
  m16 := by kernel_rfl
  m17 := by kernel_rfl
  m18 := by kernel_rfl
  m19 := by kernel_rfl
  c0 := by kernel_rfl
  c2 := by kernel_rfl
  c3 := by kernel_rfl
  c4 := by kernel_rfl
  c5 := by kernel_rfl
  c9 := by kernel_rfl
  c20 := by kernel_rfl
  c21 := by kernel_rfl
  c37 := by kernel_rfl
  c46 := by kernel_rfl
  c51 := by kernel_rfl
  c53 := by kernel_rfl
  c75 := by kernel_rfl
  c76 := by kernel_rfl
  c80 := by kernel_rfl
  c85 := by kernel_rfl
  c127 := by kernel_rfl
  c143 := by kernel_rfl
  c145 := by kernel_rfl
  c167 := by kernel_rfl
  c168 := by kernel_rfl
  c171 := by kernel_rfl
  c173 := by kernel_rfl
  c175 := by kernel_rfl
  c210 := by kernel_rfl
  c212 := by kernel_rfl
  c213 := by kernel_rfl
  c232 := by kernel_rfl
  c233 := by kernel_rfl }
def Tryz.lays145_ren : Go.Shelf.Ren := ⟨fun | 145 => 87 | 220 => 103 | 219 => 107 | 217 => 117 | 225 => 118 | 224 => 119 | 267 => 120 | 266 => 129 | 314 => 130 | n => n, fun | 9 => 9 | 4 => 4 | 59 => 128 | 3 => 3 | 5 => 5 | 46 => 126 | 146 => 166 | 51 => 165 | n => n, fun | 1 => 0 | n => n⟩
theorem Tryz.lays145 : Go.Proofs.Lays.n145 Tryz.prog Tryz.lays145_ren := {
  mixed := by kernel_rfl
  f145 := Tryz.func87.trans (congrArg some (by kernel_rfl))
  f217 := Tryz.func117.trans (congrArg some (by kernel_rfl))
  f219 := Tryz.func107.trans (congrArg some (by kernel_rfl))
  f220 := Tryz.func103.trans (congrArg some (by kernel_rfl))
  f224 := Tryz.func119.trans (congrArg some (by kernel_rfl))
  f225 := Tryz.func118.trans (congrArg some (by kernel_rfl))
  f266 := Tryz.func129.trans (congrArg some (by kernel_rfl))
  f267 := Tryz.func120.trans (congrArg some (by kernel_rfl))
  f314 := Tryz.func130.trans (congrArg some (by kernel_rfl))
  t3 := Tryz.underlying3
  a3 := Tryz.isAgg3
  z3 := Tryz.sizeOf3
  v3 := Tryz.zeroValue3
  t4 := Tryz.underlying4
  a4 := Tryz.isAgg4
  z4 := Tryz.sizeOf4
  v4 := Tryz.zeroValue4
  t5 := Tryz.underlying5
  a5 := Tryz.isAgg5
  z5 := Tryz.sizeOf5
  v5 := Tryz.zeroValue5
  t9 := Tryz.underlying9
  a9 := Tryz.isAgg9
  z9 := Tryz.sizeOf9
  v9 := Tryz.zeroValue9
  t46 := Tryz.underlying126
  a46 := Tryz.isAgg126
  z46 := Tryz.sizeOf126
  v46 := Tryz.zeroValue126
  t51 := Tryz.underlying165
  a51 := Tryz.isAgg165
  z51 := Tryz.sizeOf165
  v51 := Tryz.zeroValue165
  t59 := Tryz.underlying128
  a59 := Tryz.isAgg128
  z59 := Tryz.sizeOf128
  v59 := Tryz.zeroValue128
  t146 := Tryz.underlying166
  a146 := Tryz.isAgg166
  z146 := Tryz.sizeOf166
  v146 := Tryz.zeroValue166
  g1 := by kernel_rfl }
def Tryz.lays146_ren : Go.Shelf.Ren := ⟨fun | 146 => 35 | 221 => 73 | 268 => 92 | 138 => 93 | 143 => 94 | 195 => 104 | 197 => 105 | 218 => 106 | 219 => 107 | 260 => 116 | 217 => 117 | 225 => 118 | 224 => 119 | 267 => 120 | 266 => 129 | 314 => 130 | n => n, fun | 9 => 9 | 31 => 78 | 3 => 3 | 4 => 4 | 0 => 0 | 105 => 138 | 21 => 21 | 5 => 5 | 46 => 126 | 119 => 161 | 139 => 164 | 138 => 163 | 146 => 166 | 51 => 165 | n => n, fun | 1 => 0 | 3 => 3 | 4 => 4 | n => n⟩
theorem Tryz.lays146 : Go.Proofs.Lays.n146 Tryz.prog Tryz.lays146_ren := {
  mixed := by kernel_rfl
  f138 := Tryz.func93.trans (congrArg some (by kernel_rfl))
  f143 := Tryz.func94.trans (congrArg some (by kernel_rfl))
  f146 := Tryz.func35.trans (congrArg some (by kernel_rfl))
  f195 := Tryz.func104.trans (congrArg some (by kernel_rfl))
  f197 := Tryz.func105.trans (congrArg some (by kernel_rfl))
  f217 := Tryz.func117.trans (congrArg some (by kernel_rfl))
  f218 := Tryz.func106.trans (congrArg some (by kernel_rfl))
  f219 := Tryz.func107.trans (congrArg some (by kernel_rfl))
  f221 := Tryz.func73.trans (congrArg some (by kernel_rfl))
  f224 := Tryz.func119.trans (congrArg some (by kernel_rfl))
  f225 := Tryz.func118.trans (congrArg some (by kernel_rfl))
  f260 := Tryz.func116.trans (congrArg some (by kernel_rfl))
  f266 := Tryz.func129.trans (congrArg some (by kernel_rfl))
  f267 := Tryz.func120.trans (congrArg some (by kernel_rfl))
  f268 := Tryz.func92.trans (congrArg some (by kernel_rfl))
  f314 := Tryz.func130.trans (congrArg some (by kernel_rfl))
  t0 := Tryz.underlying0
  a0 := Tryz.isAgg0
  z0 := Tryz.sizeOf0
  v0 := Tryz.zeroValue0
  t3 := Tryz.underlying3
  a3 := Tryz.isAgg3
  z3 := Tryz.sizeOf3
  v3 := Tryz.zeroValue3
  t4 := Tryz.underlying4
  a4 := Tryz.isAgg4
  z4 := Tryz.sizeOf4
  v4 := Tryz.zeroValue4
  t5 := Tryz.underlying5
  a5 := Tryz.isAgg5
  z5 := Tryz.sizeOf5
  v5 := Tryz.zeroValue5
  t9 := Tryz.underlying9
  a9 := Tryz.isAgg9
  z9 := Tryz.sizeOf9
  v9 := Tryz.zeroValue9
  t21 := Tryz.underlying21
  a21 := Tryz.isAgg21
  z21 := Tryz.sizeOf21
  v21 := Tryz.zeroValue21
  t31 := Tryz.underlying78
  a31 := Tryz.isAgg78
  z31 := Tryz.sizeOf78
  v31 := Tryz.zeroValue78
  t46 := Tryz.underlying126
  a46 := Tryz.isAgg126
  z46 := Tryz.sizeOf126
  v46 := Tryz.zeroValue126
  t51 := Tryz.underlying165
  a51 := Tryz.isAgg165
  z51 := Tryz.sizeOf165
  v51 := Tryz.zeroValue165
  t105 := Tryz.underlying138
  a105 := Tryz.isAgg138
  z105 := Tryz.sizeOf138
  v105 := Tryz.zeroValue138
  t119 := Tryz.underlying161
  a119 := Tryz.isAgg161
  z119 := Tryz.sizeOf161
  t138 := Tryz.underlying163
  a138 := Tryz.isAgg163
  z138 := Tryz.sizeOf163
  v138 := Tryz.zeroValue163
  t139 := Tryz.underlying164
  a139 := Tryz.isAgg164
  z139 := Tryz.sizeOf164
  v139 := Tryz.zeroValue164
  t146 := Tryz.underlying166
  a146 := Tryz.isAgg166
  z146 := Tryz.sizeOf166
  v146 := Tryz.zeroValue166
  g1 := by kernel_rfl
  g3 := by kernel_rfl
  g4 := by kernel_rfl }
end Go.Proofs
namespace Vg
open Go Go.Proofs
set_option maxRecDepth 100000
set_option maxHeartbeats 40000000
theorem qa2 {a b : Prop} (hb : b) (ha : a) : a ∧ b := ⟨ha, hb⟩
theorem s0 {P : Program} {τ : Tys} {S : AState} {blk : Nat → Option Blk} {dst : Option Nat} {g : Nat} {Ts Ts' : List Nat} {vs vs' vs'' : List AV} {K : AV → Prop} {K' K'' : AState → Prop} {Z : Prop} (h : eC P τ blk g Ts vs K) :
    eC P τ blk g Ts vs K ∨ bE P τ S dst g Ts' vs' K' ∨ jF P S dst g vs'' K'' ∨ Z := .inl h
theorem aB {P : Program} {τ : Tys} {S : AState} {blk : Nat → Option Blk} {dst : Option Nat} {g : Nat} {Ts Ts' : List Nat} {vs vs' vs'' : List AV} {K : AV → Prop} {K' K'' : AState → Prop} {Z : Prop} (h : bE P τ S dst g Ts' vs' K') :
    eC P τ blk g Ts vs K ∨ bE P τ S dst g Ts' vs' K' ∨ jF P S dst g vs'' K'' ∨ Z := .inr (.inl h)
theorem u2 {b : Bool} {p : Prop} (h : b = false) (h2 : b = true) : p := Bool.noConfusion (h.symm.trans h2)
theorem j3 {P : Program} {τ : Tys} {S : AState} {blk : Nat → Option Blk} {dst : Option Nat} {g : Nat} {Ts Ts' : List Nat} {vs vs' vs'' : List AV} {K : AV → Prop} {K' K'' : AState → Prop} {Z : Prop} (h : jF P S dst g vs'' K'') :
    eC P τ blk g Ts vs K ∨ bE P τ S dst g Ts' vs' K' ∨ jF P S dst g vs'' K'' ∨ Z := .inr (.inr (.inl h))
theorem z1 {n : Int} (h1 : -9223372036854775808 ≤ n) (h2 : n < 9223372036854775808) : IntKind.i64.wrap n = n := by
  simp only [IntKind.wrap]
  have e1 : (2 : Int) ^ IntKind.i64.bits = 18446744073709551616 := rfl
  have e2 : (2 : Int) ^ (IntKind.i64.bits - 1) = 9223372036854775808 := rfl
  have e3 : IntKind.i64.signed = true := rfl
  simp only [e1, e2, e3]
  have h3 := Int.emod_emod_of_dvd n (Int.dvd_refl 18446744073709551616)
  split <;> rename_i hc <;> simp at hc <;> omega
theorem tA {k m : Nat} (h : (k : Int) < m) (hm : m ≤ maxLen) : IntKind.i64.wrap ((k : Int) + 1) = ((k + 1 : Nat) : Int) := by
  have : maxLen = 9223372036854775807 := rfl
  rw [z1] <;> omega
theorem a8 {A B : Prop} (h : A) : (true = true → A) ∧ (true = false → B) := ⟨fun _ => h, fun h => by cases h⟩
theorem tB {A B : Prop} (h : B) : (false = true → A) ∧ (false = false → B) := ⟨fun h => (by cases h), fun _ => h⟩
theorem m9 {A B : Prop} (h : A) : (true = false → B) ∧ (true = true → A) := ⟨fun h => (by cases h), fun _ => h⟩
theorem f9 {A B : Prop} (h : B) : (false = false → B) ∧ (false = true → A) := ⟨fun _ => h, fun h => by cases h⟩
theorem d7 {p A B : Prop} [Decidable p] (h1 : p → A) (h2 : ¬ p → B) : (decide p = true → A) ∧ (decide p = false → B) := ⟨fun h => h1 (of_decide_eq_true h), fun h => h2 (of_decide_eq_false h)⟩
theorem mD {p A B : Prop} [Decidable p] (h1 : ¬ p → A) (h2 : p → B) : (decide p = false → A) ∧ (decide p = true → B) := ⟨fun h => h1 (of_decide_eq_false h), fun h => h2 (of_decide_eq_true h)⟩
theorem vA {b : Bool} {A B : Prop} (h1 : b = true → A) (h2 : b = false → B) : (b = true → A) ∧ (b = false → B) := ⟨h1, h2⟩
theorem sp_b' {b : Bool} {A B : Prop} (h1 : b = false → A) (h2 : b = true → B) : (b = false → A) ∧ (b = true → B) := ⟨h1, h2⟩
theorem e9 {b : Bool} {A B : Prop} (h1 : b = false → A) (h2 : b = true → B) : ((!b) = true → A) ∧ ((!b) = false → B) := ⟨fun h => h1 (by simpa using h), fun h => h2 (by simpa using h)⟩
theorem lD {b : Bool} {A B : Prop} (h1 : b = true → A) (h2 : b = false → B) : ((!b) = false → A) ∧ ((!b) = true → B) := ⟨fun h => h1 (by simpa using h), fun h => h2 (by simpa using h)⟩
theorem q8 {a b c d : Int} (h1 : a ≤ b) (h2 : c < d) : a ≤ b ∧ c < d := ⟨h1, h2⟩
theorem p9 {a b c d : Int} (h1 : a ≤ b) (h2 : c ≤ d) : a ≤ b ∧ c ≤ d := ⟨h1, h2⟩
theorem fE {a b c d : Nat} (h1 : a ≤ b) (h2 : c ≤ d) : a ≤ b ∧ c ≤ d := ⟨h1, h2⟩
theorem j0 {σ : List (Nat × Option Nat)} {d' d : Dat} (h : d' = d) : wk σ (.dat d') (.dat d) := h
theorem g0 {σ : List (Nat × Option Nat)} {d' d : Dat} (h : d' = d) : wkC σ (.dat d') (.dat d) := h
theorem kR {α : Type} {f : α → Bool} {l : List α} {k : Nat} (d : α) (h : (k : Int) < l.length) : (l.take (k + 1)).all f = ((l.take k).all f && f (l.getD k d)) := by
  have h' : k < l.length := by omega
  rw [List.take_succ_eq_append_getElem h', List.all_append]
  simp [List.getD_eq_getElem?_getD, h']
theorem all_no {α : Type} {f : α → Bool} {l : List α} {k : Nat} {d : α} (h : (k : Int) < l.length) (hf : f (l.getD k d) = false) : l.all f = false := by
  have h' : k < l.length := by omega
  simp only [List.getD_eq_getElem?_getD, List.getElem?_eq_getElem h', Option.getD_some] at hf
  exact List.all_eq_false.2 ⟨l[k], List.getElem_mem h', by simp [hf]⟩
theorem all_end {α : Type} {f : α → Bool} {l : List α} {k : Nat} (h : ¬ (k : Int) < l.length) (hf : (l.take k).all f = true) : l.all f = true := by
  rwa [List.take_of_length_le omG] at hf
theorem uA {a b : Int} {A B : Prop} (h1 : a = b → A) (h2 : ¬ a = b → B) : ((a == b) = true → A) ∧ ((a == b) = false → B) := ⟨fun h => h1 (by simpa using h), fun h => h2 (by simpa using h)⟩
theorem wF {a b : Int} {A B : Prop} (h1 : ¬ a = b → A) (h2 : a = b → B) : ((a == b) = false → A) ∧ ((a == b) = true → B) := ⟨fun h => h1 (by simpa using h), fun h => h2 (by simpa using h)⟩
theorem pE {a b : Int} {A B : Prop} (h1 : ¬ a = b → A) (h2 : a = b → B) : ((a != b) = true → A) ∧ ((a != b) = false → B) := ⟨fun h => h1 (by simpa using h), fun h => h2 (by simpa using h)⟩
theorem sN {a b : Int} {A B : Prop} (h1 : a = b → A) (h2 : ¬ a = b → B) : ((a != b) = false → A) ∧ ((a != b) = true → B) := ⟨fun h => h1 (by simpa using h), fun h => h2 (by simpa using h)⟩
theorem sp_eF {a b : Int} {A B : Prop} (hn : ¬ a = b) (h2 : B) : ((a == b) = true → A) ∧ ((a == b) = false → B) := ⟨fun h => (hn (by simpa using h)).elim, fun _ => h2⟩
theorem tN {a : Int} {A B : Prop} (h1 : A) : ((a == a) = true → A) ∧ ((a == a) = false → B) := ⟨fun _ => h1, fun h => (by simp at h)⟩
theorem sp_dF {p A B : Prop} [Decidable p] (hn : ¬ p) (h2 : B) : (decide p = true → A) ∧ (decide p = false → B) := ⟨fun h => (hn (of_decide_eq_true h)).elim, fun _ => h2⟩
theorem sp_dT {p A B : Prop} [Decidable p] (hn : p) (h2 : A) : (decide p = true → A) ∧ (decide p = false → B) := ⟨fun _ => h2, fun h => (of_decide_eq_false h hn).elim⟩
/-! ### steps that the walks share: what a step leaves is handed on as it is found (the default argument finds it) -/
structure Bx (R : Prop) : Prop where
  u : R
structure SplS (p q A B : Prop) : Prop where
  l : p → A
  r : q → B
section
variable {A B : Prop}
theorem ss_d {p : Prop} [Decidable p] (h : SplS p (¬ p) A B) : (decide p = true → A) ∧ (decide p = false → B) := d7 h.l h.r
theorem ss_d' {p : Prop} [Decidable p] (h : SplS (¬ p) p A B) : (decide p = false → A) ∧ (decide p = true → B) := mD h.l h.r
theorem ss_e {a b : Int} (h : SplS (a = b) (¬ a = b) A B) : ((a == b) = true → A) ∧ ((a == b) = false → B) := uA h.l h.r
theorem ss_e' {a b : Int} (h : SplS (¬ a = b) (a = b) A B) : ((a == b) = false → A) ∧ ((a == b) = true → B) := wF h.l h.r
theorem ss_n {a b : Int} (h : SplS (¬ a = b) (a = b) A B) : ((a != b) = true → A) ∧ ((a != b) = false → B) := pE h.l h.r
theorem ss_n' {a b : Int} (h : SplS (a = b) (¬ a = b) A B) : ((a != b) = false → A) ∧ ((a != b) = true → B) := sN h.l h.r
theorem ss_nb {b : Bool} (h : SplS (b = false) (b = true) A B) : ((!b) = true → A) ∧ ((!b) = false → B) := e9 h.l h.r
theorem ss_nb' {b : Bool} (h : SplS (b = true) (b = false) A B) : ((!b) = false → A) ∧ ((!b) = true → B) := lD h.l h.r
theorem ss_b {b : Bool} (h : SplS (b = true) (b = false) A B) : (b = true → A) ∧ (b = false → B) := vA h.l h.r
theorem ss_b' {b : Bool} (h : SplS (b = false) (b = true) A B) : (b = false → A) ∧ (b = true → B) := sp_b' h.l h.r
end
theorem p3 {A B G : Prop} (a : Bx A) (b : Bx B) (f : Bx A → Bx B → G := by
    intro a b
    first
    | (with_reducible first | exact q8 a.u b.u | exact p9 a.u b.u | exact fE a.u b.u)
    | ((with_reducible refine qa2 ?_ b.u); (conv => whnf); exact a.u)
    | (with_reducible exact qa2 a.u b.u)) : G := f a b
theorem zV {X : AV} {Y : List Blk} {Q : AV → List Blk → Prop} (h : Q X Y) : ∀ res B, (res = X ∧ B = Y) → Q res B := fun _ _ ⟨a, b⟩ => by subst a b; exact h
theorem a7 {G : Prop} (x : G := by
    first
    | exact Bool.noConfusion (Eq.trans (Eq.symm h) (show _ = true by with_reducible assumption))
    | exact Bool.noConfusion (Eq.trans (Eq.symm (show _ = false by with_reducible assumption)) h)
    | ((fail_if_success (have _x : @Eq Bool _ _ := h)); contradiction)) : G := x
theorem ctN {G : Prop} (x : G := by
    first
    | exact Bool.noConfusion (Eq.trans (Eq.symm h) (show _ = true by with_reducible assumption))
    | exact Bool.noConfusion (Eq.trans (Eq.symm (show _ = false by with_reducible assumption)) h)
    | ((fail_if_success (have _x : @Eq Bool _ _ := h)); with_reducible contradiction)) : G := x
theorem oV {f : FuncId} {fn : Func} {c : Code} {args : List AV} {X : AV} {R : Prop} (hf : Tryz.prog.funcs[f]? = some fn) (k : Bx R) (h1 : (fn.name == "runtime.NumGoroutine") = false := by exact rfl)
    (hb : fn.body = some c := by exact rfl) (hn : Nat.ble args.length fn.ntmps = true := by exact rfl)
    (h : Bx R → d9 Tryz.prog tau c ⟨fn.ntmps, fun t => args.getD t .any, fun _ => none⟩ (bM tau fn false fun res B' => frz B' X res) := by
      intro k
      (conv => whnf)
      exact k.u) : CallsV Tryz.prog f args X := CallsV.of_awp lK yO hf h1 hb hn (h k)
theorem oF {f : FuncId} {fn : Func} {c : Code} {args : List AV} {fr : Bool} {Q : AV → List Blk → Prop} {R : Prop} (hf : Tryz.prog.funcs[f]? = some fn) (k : Bx R) (h1 : (fn.name == "runtime.NumGoroutine") = false := by exact rfl)
    (hb : fn.body = some c := by exact rfl) (hn : Nat.ble args.length fn.ntmps = true := by exact rfl)
    (h : Bx R → d9 Tryz.prog tau c ⟨fn.ntmps, fun t => args.getD t .any, fun _ => none⟩ (bM tau fn fr Q) := by
      intro k
      (conv => whnf)
      exact k.u) : CallsF Tryz.prog f args fr Q := CallsF.of_awp lK yO hf h1 hb hn (h k)
theorem oG {f : FuncId} {fn : Func} {c : Code} {args : List AV} {Bg : List Blk} {m : Nat} {Q : AV → List Blk → Prop} {R : Prop} (hf : Tryz.prog.funcs[f]? = some fn) (k : Bx R) (h1 : (fn.name == "runtime.NumGoroutine") = false := by exact rfl)
    (hb : fn.body = some c := by exact rfl) (hn : (Nat.ble args.length fn.ntmps && Nat.ble m Bg.length) = true := by exact rfl)
    (h : Bx R → d9 Tryz.prog tau c ⟨fn.ntmps, fun t => (args.getD t .any).ren Bg.length 900000, pF Bg⟩ (gpost tau fn m Q) := by
      intro k
      (conv => whnf)
      exact k.u) : CallsG Tryz.prog f args Bg m Q := CallsG.of_awp lK yO hf h1 hb hn (h k)
abbrev KT := AX → AState → Prop
theorem y5 {R G : Prop} (k : Bx R) (f : Bx R → G := by
    intro k
    first | ((with_reducible first | refine Alt.l ?_ | refine a8 ?_ | refine tB ?_ | refine m9 ?_ | refine f9 ?_); (conv => whnf); exact k.u) | ((with_reducible refine sp_dF ?_ ?_); decide; (conv => whnf); exact k.u) | ((with_reducible refine sp_dT ?_ ?_); decide; (conv => whnf); exact k.u) | ((with_reducible first | refine ss_d ?_ | refine ss_d' ?_); exact k.u) | ((with_reducible refine sp_eF ?_ ?_); decide; (conv => whnf); exact k.u) | ((with_reducible refine tN ?_); (conv => whnf); exact k.u) | ((with_reducible first | refine ss_e ?_ | refine ss_e' ?_ | refine ss_n ?_ | refine ss_n' ?_ | refine ss_nb ?_ | refine ss_nb' ?_ | refine ss_b ?_ | refine ss_b' ?_); exact k.u) | (refine ⟨(rfl : d4 _ = true), rfl, ?_⟩; first | ((conv => whnf); exact k.u) | exact k.u) | ((with_reducible show d3 _ _ _ _ _ _); (conv => whnf); exact k.u)) : G := f k
theorem j6 {R G : Prop} (k : Bx R) (f : Bx R → G := by
    intro k
    (conv => whnf)
    exact k.u) : G := f k
theorem aA {G : Prop} (x : G := by contradiction) : G := x
theorem ctR {G : Prop} (x : G := by
    first | exact Bool.noConfusion (Eq.trans (Eq.symm h) (show _ = true by with_reducible assumption)) | exact Bool.noConfusion (Eq.trans (Eq.symm (show _ = false by with_reducible assumption)) h)) : G := x
def inP (n lo hi : Int) : Bool := decide (lo ≤ n) && decide (n ≤ hi)
def regP (n : Int) : Bool := inP n 0 3
def wordP (w a : Int) : Bool := inP w 1 16 && inP a 0 (2 ^ w.toNat - 1)
theorem shl1 {w : Int} (h : inP w 1 16 = true) : IntKind.i64.wrap (1 * 2 ^ min w.toNat IntKind.i64.bits) = 2 ^ w.toNat := by
  have h' : w.toNat < 17 := by simp [inP] at h; omega
  revert h'
  generalize w.toNat = k
  intro h
  have : ∀ k < 17, IntKind.i64.wrap (1 * 2 ^ min k IntKind.i64.bits) = 2 ^ k := by decide
  exact this k h
theorem uw {w : Int} (h : inP w 1 16 = true) : IntKind.u64.wrap w = w := by
  simp [inP] at h
  have h' : w.toNat < 17 := by omega
  have e : w = (w.toNat : Int) := by omega
  rw [e]
  revert h'
  generalize w.toNat = k
  intro h
  have : ∀ k < 17, IntKind.u64.wrap ((k : Nat) : Int) = k := by decide
  exact this k h
theorem top1 {w : Int} (h : inP w 1 16 = true) : IntKind.i64.wrap (2 ^ w.toNat - 1) = 2 ^ w.toNat - 1 := by
  have h' : w.toNat < 17 := by simp [inP] at h; omega
  revert h'
  generalize w.toNat = k
  intro h
  have : ∀ k < 17, IntKind.i64.wrap ((2 : Int) ^ k - 1) = 2 ^ k - 1 := by decide
  exact this k h
theorem rE (n lo hi : Int) : CallsV Tryz.prog 56 [.dat (.i n), .dat (.i lo), .dat (.i hi)] (.dat (.bool (inP n lo hi))) := by
  refine oV Tryz.func56 ⟨?_⟩
  repeat' (first | ((with_reducible refine fun (K1 : KT) hK => ?_); refine j6 ⟨?_⟩) | ((with_reducible show K1 _ _); subst hK; conv => whnf) | (with_reducible exact rfl) | refine y5 ⟨?_⟩ | ((with_reducible refine SplS.mk (fun h => ?_) (fun h => ?_)) <;> first | exact aA | (subst h; conv => whnf) | (conv => whnf)) | ((with_reducible refine SplS.mk (fun h => ?_) (fun h => ?_)) <;> first | exact aA | (conv => whnf)) | (intro h; conv => whnf))
  all_goals repeat clear hK K1
  all_goals simp [inP, *]
theorem qb2 (w a : Int) : CallsV Tryz.prog 62 [.dat (.i w), .dat (.i a)] (.dat (.bool (wordP w a))) := by
  refine oV Tryz.func62 ⟨?_⟩
  repeat' (first | ((with_reducible refine fun (K1 : KT) hK => ?_); refine j6 ⟨?_⟩) | ((with_reducible show K1 _ _); subst hK; conv => whnf) | (with_reducible exact rfl) | refine y5 ⟨?_⟩ | ((with_reducible refine SplS.mk (fun h => ?_) (fun h => ?_)) <;> first | exact aA | (subst h; conv => whnf) | (conv => whnf)) | ((with_reducible refine SplS.mk (fun h => ?_) (fun h => ?_)) <;> first | exact aA | (conv => whnf)) | refine p3 ⟨?_⟩ ⟨?_⟩ | ((with_reducible first | refine s0 (g := 56) ?_ | show Exists _); refine ⟨_, rE .., rfl, ?_⟩; rotate_right; conv => whnf) | (intro h; conv => whnf))
  all_goals repeat clear hK K1
  · have h1 := h
    simp only [wordP, h1, shl1 h1, top1 h1, Bool.true_and]
  · have h1 := h
    simp [inP] at h1; omega
  · simp only [wordP, h, Bool.false_and]
theorem zX (w a : Int) : CallsV Tryz.prog 49 [.dat (.i w), .dat (.i a)] (.dat (.bool (inP w 2 8 && inP a 1 40))) := by
  refine oV Tryz.func49 ⟨?_⟩
  repeat' (first | ((with_reducible refine fun (K1 : KT) hK => ?_); refine j6 ⟨?_⟩) | ((with_reducible show K1 _ _); subst hK; conv => whnf) | (with_reducible exact rfl) | refine y5 ⟨?_⟩ | ((with_reducible refine SplS.mk (fun h => ?_) (fun h => ?_)) <;> first | exact aA | (subst h; conv => whnf) | (conv => whnf)) | ((with_reducible refine SplS.mk (fun h => ?_) (fun h => ?_)) <;> first | exact aA | (conv => whnf)) | (intro h; conv => whnf))
  all_goals repeat clear hK K1
  all_goals first | rfl | assumption | exact Bool.noConfusion (h.symm.trans hp) | (simp_all [inP]; done) | grind [inP] | (simp_all [inP]; omega)
theorem bY (w : Int) : CallsV Tryz.prog 89 [.dat (.i w)] (.dat (.bool (inP w 1 16))) := by
  refine oV Tryz.func89 ⟨?_⟩
  repeat' (first | ((with_reducible refine fun (K1 : KT) hK => ?_); refine j6 ⟨?_⟩) | ((with_reducible show K1 _ _); subst hK; conv => whnf) | (with_reducible exact rfl) | refine y5 ⟨?_⟩ | ((with_reducible refine SplS.mk (fun h => ?_) (fun h => ?_)) <;> first | exact aA | (subst h; conv => whnf) | (conv => whnf)) | ((with_reducible refine SplS.mk (fun h => ?_) (fun h => ?_)) <;> first | exact aA | (conv => whnf)) | (intro h; conv => whnf))
  all_goals repeat clear hK K1
  all_goals first | rfl | assumption | exact Bool.noConfusion (h.symm.trans hp) | (simp_all [inP]; done) | grind [inP] | (simp_all [inP]; omega)
theorem cY (w : Int) : CallsV Tryz.prog 47 [.dat (.i w)] (.dat (.bool (inP w 3 16))) := by
  refine oV Tryz.func47 ⟨?_⟩
  repeat' (first | ((with_reducible refine fun (K1 : KT) hK => ?_); refine j6 ⟨?_⟩) | ((with_reducible show K1 _ _); subst hK; conv => whnf) | (with_reducible exact rfl) | refine y5 ⟨?_⟩ | ((with_reducible refine SplS.mk (fun h => ?_) (fun h => ?_)) <;> first | exact aA | (subst h; conv => whnf) | (conv => whnf)) | ((with_reducible refine SplS.mk (fun h => ?_) (fun h => ?_)) <;> first | exact aA | (conv => whnf)) | (intro h; conv => whnf))
  all_goals repeat clear hK K1
  all_goals first | rfl | assumption | exact Bool.noConfusion (h.symm.trans hp) | (simp_all [inP]; done) | grind [inP] | (simp_all [inP]; omega)
theorem i_isReg (w : Int) : CallsV Tryz.prog 82 [.dat (.i w)] (.dat (.bool (regP w))) := by
  refine oV Tryz.func82 ⟨?_⟩
  repeat' (first | ((with_reducible refine fun (K1 : KT) hK => ?_); refine j6 ⟨?_⟩) | ((with_reducible show K1 _ _); subst hK; conv => whnf) | (with_reducible exact rfl) | refine y5 ⟨?_⟩ | ((with_reducible refine SplS.mk (fun h => ?_) (fun h => ?_)) <;> first | exact aA | (subst h; conv => whnf) | (conv => whnf)) | ((with_reducible refine SplS.mk (fun h => ?_) (fun h => ?_)) <;> first | exact aA | (conv => whnf)) | (intro h; conv => whnf))
  all_goals repeat clear hK K1
  all_goals first | rfl | assumption | exact Bool.noConfusion (h.symm.trans hp) | (simp_all [inP, regP]; done) | grind [inP, regP] | (simp_all [inP, regP]; omega)
theorem oP (w a : Int) : CallsV Tryz.prog 80 [.dat (.i w), .dat (.i a)] (.dat (.bool (wordP w a))) := by
  refine oV Tryz.func80 ⟨?_⟩
  repeat' (first | ((with_reducible refine fun (K1 : KT) hK => ?_); refine j6 ⟨?_⟩) | ((with_reducible show K1 _ _); subst hK; conv => whnf) | (with_reducible exact rfl) | refine y5 ⟨?_⟩ | ((with_reducible refine SplS.mk (fun h => ?_) (fun h => ?_)) <;> first | exact aA | (subst h; conv => whnf) | (conv => whnf)) | ((with_reducible refine SplS.mk (fun h => ?_) (fun h => ?_)) <;> first | exact aA | (conv => whnf)) | refine p3 ⟨?_⟩ ⟨?_⟩ | ((with_reducible first | refine s0 (g := 89) ?_ | show Exists _); refine ⟨_, bY .., rfl, ?_⟩; rotate_right; conv => whnf) | (intro h; conv => whnf))
  all_goals repeat clear hK K1
  · rename_i h1
    have e := uw h1
    have e2 := shl1 h1
    have ha : 0 ≤ a := h
    rw [e, e2]
    simp only [wordP, h1, Bool.true_and]
    simp only [inP, decide_eq_true ha, Bool.true_and]
    exact congrArg Dat.bool (decide_eq_decide.2 omG)
  · rename_i h1
    rw [uw h1]
    simp [inP] at h1; omega
  · have ha : ¬ 0 ≤ a := h
    simp [wordP, inP, ha]
  · simp only [wordP, h, Bool.false_and]
def p5 (i : V.Ins) (w size : Int) : Bool :=
  if i.op = 1 then regP i.a && wordP w i.b && decide (i.c = 0)
  else if i.op = 2 ∨ i.op = 7 ∨ i.op = 8 then regP i.a && regP i.b && decide (i.c = 0)
  else if i.op = 3 then regP i.a && regP i.b && inP i.c 3 16
  else if i.op = 4 ∨ i.op = 5 ∨ i.op = 6 ∨ i.op = 13 then regP i.a && decide (i.b = 0) && decide (i.c = 0)
  else if i.op = 9 ∨ i.op = 11 then decide (i.a = 0) && inP i.b 0 size && decide (i.c = 0)
  else if i.op = 10 then regP i.a && inP i.b 0 size && decide (i.c = 0)
  else if i.op = 12 ∨ i.op = 14 then decide (i.a = 0) && decide (i.b = 0) && decide (i.c = 0)
  else false
theorem eY (op a b c w size : Int) : CallsV Tryz.prog 50 [.agg [.dat (.i op), .dat (.i a), .dat (.i b), .dat (.i c)], .dat (.i w), .dat (.i size)] (.dat (.bool (p5 ⟨op, a, b, c⟩ w size))) := by
  refine oV Tryz.func50 ⟨?_⟩
  repeat' (first | ((with_reducible refine fun (K1 : KT) hK => ?_); refine j6 ⟨?_⟩) | ((with_reducible show K1 _ _); subst hK; conv => whnf) | (with_reducible exact rfl) | refine y5 ⟨?_⟩ | ((with_reducible refine SplS.mk (fun h => ?_) (fun h => ?_)) <;> first | exact aA | ((fail_if_success (have _x : @Eq Bool _ _ := h)); subst h; conv => whnf) | (conv => whnf)) | ((with_reducible first | refine s0 (g := 82) ?_ | show Exists _); refine ⟨_, i_isReg .., rfl, ?_⟩; rotate_right; conv => whnf) | ((with_reducible first | refine s0 (g := 47) ?_ | show Exists _); refine ⟨_, cY .., rfl, ?_⟩; rotate_right; conv => whnf) | ((with_reducible first | refine s0 (g := 80) ?_ | show Exists _); refine ⟨_, oP .., rfl, ?_⟩; rotate_right; conv => whnf) | (intro h; conv => whnf))
  all_goals repeat clear hK K1
  all_goals first | (simp [p5, inP, *]; done) | (simp [p5, *]; rfl)
def p4 (p : V.Prog) : Bool :=
  inP p.w 2 8 && inP p.mem 1 6 && wordP p.w p.mem && inP p.inn 0 3 && inP p.code.length 1 40 && p.code.all fun i => p5 i p.w p.code.length
theorem hY (w mem inn : Int) (code : List V.Ins) : CallsV Tryz.prog 44 [.agg [.dat (.i w), .dat (.i mem), .dat (.i inn), .dat (.seq .inss code)]] (.dat (.bool (p4 ⟨w, mem, inn, code⟩))) := by
  refine oV Tryz.func44 ⟨?_⟩
  repeat' (first | ((with_reducible refine fun (K1 : KT) hK => ?_); refine j6 ⟨?_⟩) | ((with_reducible show K1 _ _); subst hK; conv => whnf) | (with_reducible exact rfl) | refine y5 ⟨?_⟩ | ((with_reducible refine SplS.mk (fun h => ?_) (fun h => ?_)) <;> first | exact aA | (subst h; conv => whnf) | (conv => whnf)) | refine p3 ⟨?_⟩ ⟨?_⟩ | (refine Exists.intro ({k : Nat // (code.take k).all (fun i => p5 i w code.length) = true}) (Exists.intro (fun ⟨k, hall⟩ => x5 Tryz.f44.ntmps [(1, .ptr 1 0), (39, .dat (.seq .inss code)), (40, .dat (.i code.length)), (41, .dat (.i k))] [(1, .box [.dat (.i w), .dat (.i mem), .dat (.i inn), .dat (.seq .inss code)])]) (Exists.intro (fun ⟨k, hall⟩ => code.length - k) (Exists.intro ⟨0, rfl⟩ (And.intro (SubP.sub (σ := [(1, some 1)]) ⟨⟨rfl, rfl, rfl⟩, ⟨⟨rfl, rfl⟩, j0 ?_, j0 ?_, j0 ?_, trivial⟩, ⟨⟨g0 ?_, g0 ?_, g0 ?_, g0 ?_, trivial⟩, trivial⟩⟩) (fun ⟨k, hall⟩ => ?_))))); rotate_right; conv => whnf) | (refine Exists.intro ⟨k + 1, ?_⟩ (And.intro ?_ (SubP.sub (σ := [(1, some 1)]) ⟨⟨rfl, rfl, rfl⟩, ⟨⟨rfl, rfl⟩, j0 ?_, j0 ?_, j0 ?_, trivial⟩, ⟨⟨g0 ?_, g0 ?_, g0 ?_, g0 ?_, trivial⟩, trivial⟩⟩))) | ((with_reducible first | refine s0 (g := 49) ?_ | show Exists _); refine ⟨_, zX .., rfl, ?_⟩; rotate_right; conv => whnf) | ((with_reducible first | refine s0 (g := 80) ?_ | show Exists _); refine ⟨_, oP .., rfl, ?_⟩; rotate_right; conv => whnf) | ((with_reducible first | refine s0 (g := 50) ?_ | show Exists _); refine ⟨_, eY .., rfl, ?_⟩; rotate_right; conv => whnf) | (intro h; conv => whnf))
  all_goals repeat clear hK K1
  all_goals first | rfl | assumption | exact Bool.noConfusion (h.symm.trans hp) | omega | (dsimp only; omega) | exact congrArg (Dat.int .i64) (tA (by assumption) (by assumption)).symm | (simp [p4, *]; done) | (rw [kR K.inss.dflt (by assumption), hall]; exact h) | (simp only [p4]; rw [all_no (f := fun i => p5 i w code.length) (by assumption) h, Bool.and_false]) | (simp only [p4]; rw [all_end h hall]; clear hall h; simp_all [inP] <;> omega) | (simp_all [p4, inP]; omega) | (simp_all [p4, inP]; done)
theorem tK {κ : K} {l l' : List κ.T} (h : l = l') : (⟨κ, l⟩ : (κ : K) × List κ.T) = ⟨κ, l'⟩ := by rw [h]
theorem set_mid {α : Type} {a : List α} {k : Nat} (d z : α) (h : (k : Int) < a.length) : (a.take k ++ List.replicate (a.length - k) z).set k (a.getD k d) = a.take (k + 1) ++ List.replicate (a.length - (k + 1)) z := by
  have h' : k < a.length := by omega
  apply List.ext_getElem?
  intro i
  simp only [List.getElem?_set, List.getElem?_append, List.length_take, List.getElem?_take, List.getElem?_replicate, List.length_append, List.length_replicate, List.getD_eq_getElem?_getD]
  rcases Nat.lt_trichotomy i k with h1 | h1 | h1
  · simp [show ¬ k = i from by omega, show i < min k a.length from by omega, show i < min (k + 1) a.length from by omega, show i < k from h1, show i < k + 1 from by omega]
  · subst h1
    simp [h', show i < min (i + 1) a.length from by omega, show i < min i a.length + (a.length - i) from by omega]
  · simp [show ¬ k = i from by omega, show ¬ i < min k a.length from by omega, show ¬ i < min (k + 1) a.length from by omega]
    have e1 : min k a.length = k := by omega
    have e2 : min (k + 1) a.length = k + 1 := by omega
    simp only [e1, e2]
    by_cases h2 : i - k < a.length - k
    · simp [h2, show i - (k + 1) < a.length - (k + 1) from by omega]
    · simp [h2, show ¬ i - (k + 1) < a.length - (k + 1) from by omega]
theorem qbm {α : Type} {a : List α} {k : Nat} {z : α} (h : ¬ (k : Int) < a.length) : a.take k ++ List.replicate (a.length - k) z = a := by
  rw [List.take_of_length_le omG, show a.length - k = 0 from by omega]; simp
def bB (w : Int) (f : V.Fact) : Bool :=
  if regP f.a = false then false
  else if f.kind = 1 then decide (f.b = 0) && wordP w f.n
  else if f.kind = 2 then regP f.b && decide (f.a < f.b) && decide (f.n = 0)
  else if f.kind = 3 then decide (f.b = 0) && wordP w f.n && decide (f.n < 2 ^ w.toNat - 1)
  else if f.kind = 4 then inP f.b 0 (w - 1) && inP f.n 0 1
  else if f.kind = 5 then regP f.b && decide (f.a < f.b) && wordP w f.n
  else if f.kind = 6 then regP f.b && !decide (f.a = f.b) && decide (f.n = 0)
  else false
theorem cV {p : V.Prog} (h : p4 p = true) : 2 ≤ p.w ∧ p.w ≤ 8 := by
  simp [p4, inP] at h
  omega
end Vg
