/- The table of types of the program. No condition. -/
import Derived.Test.YtndmanmhalpjgaaGreatDoorTy
import Derived.Test.YtndmanmhalpjgaaGreatDoorProg
import Derived.Shelf.Small.Strs
import Derived.Shelf.Strconv.Itoa3
import Derived.Shelf.Strings.Split
import Derived.Shelf.Strconv.AtoiAll
namespace Vg
open Go Go.Proofs
set_option maxRecDepth 100000
set_option maxHeartbeats 40000000
def ty3 : TyI := ⟨false, 1, 8, [.int .i64 0], [.int .i64 0], .int .i64⟩
def ty4 : TyI := ⟨false, 1, 1, [.bool false], [.bool false], .bool⟩
def ty66 : TyI := ⟨true, 4, 32, [.int .i64 0, .int .i64 0, .int .i64 0, .int .i64 0], [.int .i64 0, .int .i64 0, .int .i64 0, .int .i64 0], .flds [(0, 3), (1, 3), (2, 3), (3, 3)]⟩
def ty25 : TyI := ⟨true, 4, 48, [.int .i64 0, .int .i64 0, .int .i64 0, .slice none 0 0], [.int .i64 0, .int .i64 0, .int .i64 0, .seq .inss []], .flds [(0, 3), (1, 3), (2, 3), (3, 23)]⟩
def ty2 : TyI := ⟨false, 1, 8, [.int .i64 0], [.int .i64 0], .int .i64⟩
def ty5 : TyI := ⟨false, 1, 1, [.int .u8 0], [.int .u8 0], .int .u8⟩
def ty6 : TyI := ⟨false, 1, 1, [.int .u8 0], [.int .u8 0], .int .u8⟩
def ty7 : TyI := ⟨true, 4, 24, [.int .i64 0, .int .i64 0, .bool false, .int .u8 0], [.int .i64 0, .int .i64 0, .bool false, .int .u8 0], .flds [(0, 2), (1, 3), (2, 4), (3, 6)]⟩
def ty8 : TyI := ⟨true, 4, 24, [.int .i64 0, .int .i64 0, .bool false, .int .u8 0], [.int .i64 0, .int .i64 0, .bool false, .int .u8 0], .flds [(0, 2), (1, 3), (2, 4), (3, 6)]⟩
def ty9 : TyI := ⟨false, 1, 16, [.string ByteArray.empty], [.str ByteArray.empty], .str⟩
def ty10 : TyI := ⟨false, 1, 16, [.string ByteArray.empty], [.str ByteArray.empty], .str⟩
def ty11 : TyI := ⟨false, 1, 16, [.string ByteArray.empty], [.str ByteArray.empty], .str⟩
def ty12 : TyI := ⟨false, 1, 8, [.int .u64 0], [.int .u64 0], .int .u64⟩
def ty13 : TyI := ⟨true, 2, 24, [.string ByteArray.empty, .int .u64 0], [.str ByteArray.empty, .int .u64 0], .flds [(0, 9), (1, 12)]⟩
def ty14 : TyI := ⟨true, 2, 24, [.string ByteArray.empty, .int .u64 0], [.str ByteArray.empty, .int .u64 0], .flds [(0, 9), (1, 12)]⟩
def ty20 : TyI := ⟨false, 1, 16, [.nilIface], [.err false], .iface⟩
def ty21 : TyI := ⟨false, 1, 4, [.int .i32 0], [.int .i32 0], .int .i32⟩
def ty22 : TyI := ⟨false, 1, 24, [.slice none 0 0], [.seq .bytes []], .slice 5 .bytes⟩
def ty23 : TyI := ⟨false, 1, 24, [.slice none 0 0], [.seq .inss []], .slice 66 .inss⟩
def ty24 : TyI := ⟨true, 4, 48, [.int .i64 0, .int .i64 0, .int .i64 0, .slice none 0 0], [.int .i64 0, .int .i64 0, .int .i64 0, .seq .inss []], .flds [(0, 3), (1, 3), (2, 3), (3, 23)]⟩
def ty28 : TyI := ⟨true, 4, 32, [.int .i64 0, .int .i64 0, .int .i64 0, .int .i64 0], [.int .i64 0, .int .i64 0, .int .i64 0, .int .i64 0], .flds [(0, 3), (1, 3), (2, 3), (3, 3)]⟩
def ty29 : TyI := ⟨true, 4, 32, [.int .i64 0, .int .i64 0, .int .i64 0, .int .i64 0], [.int .i64 0, .int .i64 0, .int .i64 0, .int .i64 0], .flds [(0, 3), (1, 3), (2, 3), (3, 3)]⟩
def ty34 : TyI := ⟨false, 1, 24, [.slice none 0 0], [.seq .ints []], .slice 3 .ints⟩
def ty35 : TyI := ⟨false, 1, 24, [.slice none 0 0], [.seq .terms []], .slice 39 .terms⟩
def ty38 : TyI := ⟨true, 5, 64, [.int .i64 0, .int .i64 0, .int .i64 0, .string ByteArray.empty, .slice none 0 0], [.int .i64 0, .int .i64 0, .int .i64 0, .str ByteArray.empty, .seq .terms []], .flds [(0, 3), (1, 3), (2, 3), (3, 9), (4, 35)]⟩
def ty39 : TyI := ⟨true, 5, 64, [.int .i64 0, .int .i64 0, .int .i64 0, .string ByteArray.empty, .slice none 0 0], [.int .i64 0, .int .i64 0, .int .i64 0, .str ByteArray.empty, .seq .terms []], .flds [(0, 3), (1, 3), (2, 3), (3, 9), (4, 35)]⟩
def ty51 : TyI := ⟨false, 1, 24, [.slice none 0 0], [.seq .strs []], .slice 9 .strs⟩
def ty65 : TyI := ⟨true, 4, 32, [.int .i64 0, .int .i64 0, .int .i64 0, .int .i64 0], [.int .i64 0, .int .i64 0, .int .i64 0, .int .i64 0], .flds [(0, 3), (1, 3), (2, 3), (3, 3)]⟩
def ty71 : TyI := ⟨true, 3, 40, [.slice none 0 0, .int .i64 0, .int .i64 0], [.seq .bytes [], .int .i64 0, .int .i64 0], .flds [(0, 22), (1, 3), (2, 3)]⟩
def ty72 : TyI := ⟨true, 3, 40, [.slice none 0 0, .int .i64 0, .int .i64 0], [.seq .bytes [], .int .i64 0, .int .i64 0], .flds [(0, 22), (1, 3), (2, 3)]⟩
def ty80 : TyI := ⟨false, 1, 8, [.int .u64 0], [.int .u64 0], .int .u64⟩
def ty88 : TyI := ⟨false, 1, 16, [.nilIface], [.err false], .iface⟩
def ty89 : TyI := ⟨false, 1, 16, [.nilIface], [.err false], .iface⟩
def ty93 : TyI := ⟨false, 1, 8, [.map none], [], .map⟩
def ty94 : TyI := ⟨true, 2, 16, [.int .i64 0, .map none], [], .flds [(0, 3), (1, 93)]⟩
def ty95 : TyI := ⟨true, 2, 16, [.int .i64 0, .map none], [], .flds [(0, 3), (1, 93)]⟩
def ty103 : TyI := ⟨false, 1, 8, [.int .i64 0], [.int .i64 0], .int .i64⟩
def ty110 : TyI := ⟨false, 1, 8, [.int .u64 0], [.int .u64 0], .int .u64⟩
def ty124 : TyI := ⟨true, 2, 2, [.int .u8 0, .int .u8 0], [.int .u8 0, .int .u8 0], .flds [(0, 5), (1, 5)]⟩
def ty125 : TyI := ⟨true, 2, 2, [.int .u8 0, .int .u8 0], [.int .u8 0, .int .u8 0], .flds [(0, 5), (1, 5)]⟩
def ty127 : TyI := ⟨false, 1, 4, [.int .u32 0], [.int .u32 0], .int .u32⟩
def ty133 : TyI := ⟨true, 3, 48, [.string ByteArray.empty, .string ByteArray.empty, .nilIface], [.str ByteArray.empty, .str ByteArray.empty, .err false], .flds [(0, 9), (1, 9), (2, 89)]⟩
def ty134 : TyI := ⟨true, 3, 48, [.string ByteArray.empty, .string ByteArray.empty, .nilIface], [.str ByteArray.empty, .str ByteArray.empty, .err false], .flds [(0, 9), (1, 9), (2, 89)]⟩
def ty143 : TyI := ⟨true, 1, 16, [.string ByteArray.empty], [.str ByteArray.empty], .flds [(0, 9)]⟩
def ty144 : TyI := ⟨true, 1, 16, [.string ByteArray.empty], [.str ByteArray.empty], .flds [(0, 9)]⟩
def ty155 : TyI := ⟨false, 1, 1, [.int .u8 0], [.int .u8 0], .int .u8⟩
def ty156 : TyI := ⟨false, 1, 1, [.int .u8 0], [.int .u8 0], .int .u8⟩
def ty158 : TyI := ⟨false, 1, 4, [.int .i32 0], [.int .i32 0], .int .i32⟩
def ty159 : TyI := ⟨false, 1, 4, [.int .i32 0], [.int .i32 0], .int .i32⟩
def tauL : List (Nat × TyI) := [(3, ty3), (4, ty4), (66, ty66), (25, ty25), (2, ty2), (5, ty5), (6, ty6), (7, ty7), (8, ty8), (9, ty9), (10, ty10), (11, ty11), (12, ty12), (13, ty13), (14, ty14), (20, ty20), (21, ty21), (22, ty22), (23, ty23), (24, ty24), (28, ty28), (29, ty29), (34, ty34), (35, ty35), (38, ty38), (39, ty39), (51, ty51), (65, ty65), (71, ty71), (72, ty72), (80, ty80), (88, ty88), (89, ty89), (93, ty93), (94, ty94), (95, ty95), (103, ty103), (110, ty110), (124, ty124), (125, ty125), (127, ty127), (133, ty133), (134, ty134), (143, ty143), (144, ty144), (155, ty155), (156, ty156), (158, ty158), (159, ty159)]
def tau : Tys := jK tauL
theorem tyOk3 : TyOk Tryz.prog 3 ty3 := .of _ _ rfl rfl rfl rfl rfl (.inr rfl) rfl rfl _ rfl rfl rfl
theorem tyOk4 : TyOk Tryz.prog 4 ty4 := .of _ _ rfl rfl rfl rfl rfl (.inr rfl) rfl rfl _ rfl rfl rfl
theorem tyOk66 : TyOk Tryz.prog 66 ty66 := .of _ _ rfl rfl rfl rfl rfl (.inr rfl) rfl rfl _ rfl rfl ⟨_, rfl, rfl⟩
theorem tyOk25 : TyOk Tryz.prog 25 ty25 := .of _ _ rfl rfl rfl rfl rfl (.inr rfl) rfl rfl _ rfl rfl ⟨_, rfl, rfl⟩
theorem tyOk2 : TyOk Tryz.prog 2 ty2 := .of _ _ rfl rfl rfl rfl rfl (.inr rfl) rfl rfl _ rfl rfl rfl
theorem tyOk5 : TyOk Tryz.prog 5 ty5 := .of _ _ rfl rfl rfl rfl rfl (.inr rfl) rfl rfl _ rfl rfl rfl
theorem tyOk6 : TyOk Tryz.prog 6 ty6 := .of _ _ rfl rfl rfl rfl rfl (.inr rfl) rfl rfl _ rfl rfl rfl
theorem tyOk7 : TyOk Tryz.prog 7 ty7 := .of _ _ rfl rfl rfl rfl rfl (.inr rfl) rfl rfl _ rfl rfl ⟨_, rfl, rfl⟩
theorem tyOk8 : TyOk Tryz.prog 8 ty8 := .of _ _ rfl rfl rfl rfl rfl (.inr rfl) rfl rfl _ rfl rfl ⟨_, rfl, rfl⟩
theorem tyOk9 : TyOk Tryz.prog 9 ty9 := .of _ _ rfl rfl rfl rfl rfl (.inr rfl) rfl rfl _ rfl rfl rfl
theorem tyOk10 : TyOk Tryz.prog 10 ty10 := .of _ _ rfl rfl rfl rfl rfl (.inr rfl) rfl rfl _ rfl rfl rfl
theorem tyOk11 : TyOk Tryz.prog 11 ty11 := .of _ _ rfl rfl rfl rfl rfl (.inr rfl) rfl rfl _ rfl rfl rfl
theorem tyOk12 : TyOk Tryz.prog 12 ty12 := .of _ _ rfl rfl rfl rfl rfl (.inr rfl) rfl rfl _ rfl rfl rfl
theorem tyOk13 : TyOk Tryz.prog 13 ty13 := .of _ _ rfl rfl rfl rfl rfl (.inr rfl) rfl rfl _ rfl rfl ⟨_, rfl, rfl⟩
theorem tyOk14 : TyOk Tryz.prog 14 ty14 := .of _ _ rfl rfl rfl rfl rfl (.inr rfl) rfl rfl _ rfl rfl ⟨_, rfl, rfl⟩
theorem tyOk20 : TyOk Tryz.prog 20 ty20 := .of _ _ rfl rfl rfl rfl rfl (.inr rfl) rfl rfl _ rfl rfl ⟨_, rfl⟩
theorem tyOk21 : TyOk Tryz.prog 21 ty21 := .of _ _ rfl rfl rfl rfl rfl (.inr rfl) rfl rfl _ rfl rfl rfl
theorem tyOk22 : TyOk Tryz.prog 22 ty22 := .of _ _ rfl rfl rfl rfl rfl (.inr rfl) rfl rfl _ rfl rfl rfl
theorem tyOk23 : TyOk Tryz.prog 23 ty23 := .of _ _ rfl rfl rfl rfl rfl (.inr rfl) rfl rfl _ rfl rfl rfl
theorem tyOk24 : TyOk Tryz.prog 24 ty24 := .of _ _ rfl rfl rfl rfl rfl (.inr rfl) rfl rfl _ rfl rfl ⟨_, rfl, rfl⟩
theorem tyOk28 : TyOk Tryz.prog 28 ty28 := .of _ _ rfl rfl rfl rfl rfl (.inr rfl) rfl rfl _ rfl rfl ⟨_, rfl, rfl⟩
theorem tyOk29 : TyOk Tryz.prog 29 ty29 := .of _ _ rfl rfl rfl rfl rfl (.inr rfl) rfl rfl _ rfl rfl ⟨_, rfl, rfl⟩
theorem tyOk34 : TyOk Tryz.prog 34 ty34 := .of _ _ rfl rfl rfl rfl rfl (.inr rfl) rfl rfl _ rfl rfl rfl
theorem tyOk35 : TyOk Tryz.prog 35 ty35 := .of _ _ rfl rfl rfl rfl rfl (.inr rfl) rfl rfl _ rfl rfl rfl
theorem tyOk38 : TyOk Tryz.prog 38 ty38 := .of _ _ rfl rfl rfl rfl rfl (.inr rfl) rfl rfl _ rfl rfl ⟨_, rfl, rfl⟩
theorem tyOk39 : TyOk Tryz.prog 39 ty39 := .of _ _ rfl rfl rfl rfl rfl (.inr rfl) rfl rfl _ rfl rfl ⟨_, rfl, rfl⟩
theorem tyOk51 : TyOk Tryz.prog 51 ty51 := .of _ _ rfl rfl rfl rfl rfl (.inr rfl) rfl rfl _ rfl rfl rfl
theorem tyOk65 : TyOk Tryz.prog 65 ty65 := .of _ _ rfl rfl rfl rfl rfl (.inr rfl) rfl rfl _ rfl rfl ⟨_, rfl, rfl⟩
theorem tyOk71 : TyOk Tryz.prog 71 ty71 := .of _ _ rfl rfl rfl rfl rfl (.inr rfl) rfl rfl _ rfl rfl ⟨_, rfl, rfl⟩
theorem tyOk72 : TyOk Tryz.prog 72 ty72 := .of _ _ rfl rfl rfl rfl rfl (.inr rfl) rfl rfl _ rfl rfl ⟨_, rfl, rfl⟩
theorem tyOk80 : TyOk Tryz.prog 80 ty80 := .of _ _ rfl rfl rfl rfl rfl (.inr rfl) rfl rfl _ rfl rfl rfl
theorem tyOk88 : TyOk Tryz.prog 88 ty88 := .of _ _ rfl rfl rfl rfl rfl (.inr rfl) rfl rfl _ rfl rfl ⟨_, rfl⟩
theorem tyOk89 : TyOk Tryz.prog 89 ty89 := .of _ _ rfl rfl rfl rfl rfl (.inr rfl) rfl rfl _ rfl rfl ⟨_, rfl⟩
theorem tyOk93 : TyOk Tryz.prog 93 ty93 := .of _ _ rfl rfl rfl rfl rfl (.inl rfl) rfl rfl _ rfl rfl ⟨_, _, rfl, rfl, fun _ => rfl⟩
theorem tyOk94 : TyOk Tryz.prog 94 ty94 := .of _ _ rfl rfl rfl rfl rfl (.inl rfl) rfl rfl _ rfl rfl ⟨_, rfl, rfl⟩
theorem tyOk95 : TyOk Tryz.prog 95 ty95 := .of _ _ rfl rfl rfl rfl rfl (.inl rfl) rfl rfl _ rfl rfl ⟨_, rfl, rfl⟩
theorem tyOk103 : TyOk Tryz.prog 103 ty103 := .of _ _ rfl rfl rfl rfl rfl (.inr rfl) rfl rfl _ rfl rfl rfl
theorem tyOk110 : TyOk Tryz.prog 110 ty110 := .of _ _ rfl rfl rfl rfl rfl (.inr rfl) rfl rfl _ rfl rfl rfl
theorem tyOk124 : TyOk Tryz.prog 124 ty124 := .of _ _ rfl rfl rfl rfl rfl (.inr rfl) rfl rfl _ rfl rfl ⟨_, rfl, rfl⟩
theorem tyOk125 : TyOk Tryz.prog 125 ty125 := .of _ _ rfl rfl rfl rfl rfl (.inr rfl) rfl rfl _ rfl rfl ⟨_, rfl, rfl⟩
theorem tyOk127 : TyOk Tryz.prog 127 ty127 := .of _ _ rfl rfl rfl rfl rfl (.inr rfl) rfl rfl _ rfl rfl rfl
theorem tyOk133 : TyOk Tryz.prog 133 ty133 := .of _ _ rfl rfl rfl rfl rfl (.inr rfl) rfl rfl _ rfl rfl ⟨_, rfl, rfl⟩
theorem tyOk134 : TyOk Tryz.prog 134 ty134 := .of _ _ rfl rfl rfl rfl rfl (.inr rfl) rfl rfl _ rfl rfl ⟨_, rfl, rfl⟩
theorem tyOk143 : TyOk Tryz.prog 143 ty143 := .of _ _ rfl rfl rfl rfl rfl (.inr rfl) rfl rfl _ rfl rfl ⟨_, rfl, rfl⟩
theorem tyOk144 : TyOk Tryz.prog 144 ty144 := .of _ _ rfl rfl rfl rfl rfl (.inr rfl) rfl rfl _ rfl rfl ⟨_, rfl, rfl⟩
theorem tyOk155 : TyOk Tryz.prog 155 ty155 := .of _ _ rfl rfl rfl rfl rfl (.inr rfl) rfl rfl _ rfl rfl rfl
theorem tyOk156 : TyOk Tryz.prog 156 ty156 := .of _ _ rfl rfl rfl rfl rfl (.inr rfl) rfl rfl _ rfl rfl rfl
theorem tyOk158 : TyOk Tryz.prog 158 ty158 := .of _ _ rfl rfl rfl rfl rfl (.inr rfl) rfl rfl _ rfl rfl rfl
theorem tyOk159 : TyOk Tryz.prog 159 ty159 := .of _ _ rfl rfl rfl rfl rfl (.inr rfl) rfl rfl _ rfl rfl rfl
theorem aJ : l4 Tryz.prog tau := iS ⟨tyOk3, tyOk4, tyOk66, tyOk25, tyOk2, tyOk5, tyOk6, tyOk7, tyOk8, tyOk9, tyOk10, tyOk11, tyOk12, tyOk13, tyOk14, tyOk20, tyOk21, tyOk22, tyOk23, tyOk24, tyOk28, tyOk29, tyOk34, tyOk35, tyOk38, tyOk39, tyOk51, tyOk65, tyOk71, tyOk72, tyOk80, tyOk88, tyOk89, tyOk93, tyOk94, tyOk95, tyOk103, tyOk110, tyOk124, tyOk125, tyOk127, tyOk133, tyOk134, tyOk143, tyOk144, tyOk155, tyOk156, tyOk158, tyOk159, trivial⟩
theorem dN : Tryz.prog.follows .mixedOrders = true := rfl
end Vg
namespace Go.Proofs
open Go.Shelf
def Tryz.lays106_ren : Go.Shelf.Ren := ⟨fun | 106 => 127 | 213 => 133 | 265 => 134 | n => n, fun | 9 => 9 | 3 => 3 | n => n, fun | n => n⟩
theorem Tryz.lays106 : Go.Proofs.Lays.n106 Tryz.prog Tryz.lays106_ren := {
  mixed := by kernel_rfl
  f106 := Tryz.func127.trans (congrArg some (by kernel_rfl))
  f213 := Tryz.func133.trans (congrArg some (by kernel_rfl))
  f265 := Tryz.func134.trans (congrArg some (by kernel_rfl))
  t3 := Tryz.underlying3
  a3 := Tryz.isAgg3
  z3 := Tryz.sizeOf3
  v3 := Tryz.zeroValue3
  t9 := Tryz.underlying9
  a9 := Tryz.isAgg9
  z9 := Tryz.sizeOf9
  v9 := Tryz.zeroValue9 }
def Tryz.laysM171_ren : Go.Shelf.Ren := ⟨fun | 171 => 47 | 243 => 64 | 246 => 75 | 283 => 97 | 284 => 98 | 285 => 99 | 286 => 100 | 129 => 119 | 317 => 118 | 318 => 120 | 319 => 121 | 320 => 122 | 337 => 130 | 338 => 131 | n => n, fun | 3 => 3 | 9 => 9 | 2 => 2 | 4 => 4 | 171 => 109 | 0 => 0 | 53 => 110 | 37 => 22 | 5 => 5 | 173 => 113 | 212 => 137 | 51 => 127 | 20 => 20 | 213 => 138 | 46 => 80 | 232 => 146 | 233 => 147 | n => n, fun | 17 => 5 | 18 => 6 | 19 => 7 | n => n⟩
theorem Tryz.laysM171 : Go.Proofs.LaysM.n171 Tryz.prog Tryz.laysM171_ren := {
  mixed := by kernel_rfl
  f129 := Tryz.func119.trans (congrArg some (by kernel_rfl))
  f171 := Tryz.func47.trans (congrArg some (by kernel_rfl))
  f243 := Tryz.func64.trans (congrArg some (by kernel_rfl))
  f246 := Tryz.func75.trans (congrArg some (by kernel_rfl))
  f283 := Tryz.func97.trans (congrArg some (by kernel_rfl))
  f284 := Tryz.func98.trans (congrArg some (by kernel_rfl))
  f285 := Tryz.func99.trans (congrArg some (by kernel_rfl))
  f286 := Tryz.func100.trans (congrArg some (by kernel_rfl))
  f317 := Tryz.func118.trans (congrArg some (by kernel_rfl))
  f318 := Tryz.func120.trans (congrArg some (by kernel_rfl))
  f319 := Tryz.func121.trans (congrArg some (by kernel_rfl))
  f320 := Tryz.func122.trans (congrArg some (by kernel_rfl))
  f337 := Tryz.func130.trans (congrArg some (by kernel_rfl))
  f338 := Tryz.func131.trans (congrArg some (by kernel_rfl))
  t0 := Tryz.underlying0
  a0 := Tryz.isAgg0
  z0 := Tryz.sizeOf0
  v0 := Tryz.zeroValue0
  t2 := Tryz.underlying2
  a2 := Tryz.isAgg2
  z2 := Tryz.sizeOf2
  v2 := Tryz.zeroValue2
  t3 := Tryz.underlying3
  a3 := Tryz.isAgg3
  z3 := Tryz.sizeOf3
  v3 := Tryz.zeroValue3
  t4 := Tryz.underlying4
  a4 := Tryz.isAgg4
  z4 := Tryz.sizeOf4
  v4 := Tryz.zeroValue4
  t5 := Tryz.underlying5
  a5 := Tryz.isAgg5
  z5 := Tryz.sizeOf5
  v5 := Tryz.zeroValue5
  t9 := Tryz.underlying9
  a9 := Tryz.isAgg9
  z9 := Tryz.sizeOf9
  v9 := Tryz.zeroValue9
  t20 := Tryz.underlying20
  a20 := Tryz.isAgg20
  z20 := Tryz.sizeOf20
  v20 := Tryz.zeroValue20
  t37 := Tryz.underlying22
  a37 := Tryz.isAgg22
  z37 := Tryz.sizeOf22
  v37 := Tryz.zeroValue22
  t46 := Tryz.underlying80
  a46 := Tryz.isAgg80
  z46 := Tryz.sizeOf80
  v46 := Tryz.zeroValue80
  t51 := Tryz.underlying127
  a51 := Tryz.isAgg127
  z51 := Tryz.sizeOf127
  v51 := Tryz.zeroValue127
  t53 := Tryz.underlying110
  a53 := Tryz.isAgg110
  z53 := Tryz.sizeOf110
  v53 := Tryz.zeroValue110
  t171 := Tryz.underlying109
  a171 := Tryz.isAgg109
  z171 := Tryz.sizeOf109
  v171 := Tryz.zeroValue109
  t173 := Tryz.underlying113
  a173 := Tryz.isAgg113
  z173 := Tryz.sizeOf113
  v173 := Tryz.zeroValue113
  t212 := Tryz.underlying137
  a212 := Tryz.isAgg137
  z212 := Tryz.sizeOf137
  v212 := Tryz.zeroValue137
  t213 := Tryz.underlying138
  a213 := Tryz.isAgg138
  z213 := Tryz.sizeOf138
  t232 := Tryz.underlying146
  a232 := Tryz.isAgg146
  z232 := Tryz.sizeOf146
  v232 := Tryz.zeroValue146
  t233 := Tryz.underlying147
  a233 := Tryz.isAgg147
  z233 := Tryz.sizeOf147
  v233 := Tryz.zeroValue147
  g17 := by kernel_rfl
  g18 := by kernel_rfl
  g19 := by kernel_rfl
  i0 := by kernel_rfl
  i2 := by kernel_rfl
  i3 := by kernel_rfl
  i4 := by kernel_rfl
  i5 := by kernel_rfl
  i9 := by kernel_rfl
  i20 := by kernel_rfl
  i37 := by kernel_rfl
  i46 := by kernel_rfl
  i51 := by kernel_rfl
  i53 := by kernel_rfl
  i171 := by kernel_rfl
  i173 := by kernel_rfl
  i212 := by kernel_rfl
  i232 := by kernel_rfl
  i233 := by kernel_rfl
  m17 := by kernel_rfl
  m18 := by kernel_rfl
  m19 := by kernel_rfl }
def Tryz.laysC172_ren : Go.Shelf.Ren := ⟨fun | 172 => 59 | 244 => 72 | 245 => 73 | 247 => 92 | 279 => 93 | 280 => 94 | 281 => 95 | 282 => 96 | 287 => 115 | 316 => 116 | 171 => 47 | 205 => 117 | 321 => 128 | 322 => 129 | 243 => 64 | 246 => 75 | 283 => 97 | 284 => 98 | 285 => 99 | 286 => 100 | 129 => 119 | 317 => 118 | 318 => 120 | 319 => 121 | 320 => 122 | 337 => 130 | 338 => 131 | n => n, fun | 9 => 9 | 3 => 3 | 75 => 89 | 76 => 90 | 4 => 4 | 5 => 5 | 167 => 103 | 37 => 22 | 0 => 0 | 85 => 104 | 2 => 2 | 168 => 106 | 53 => 110 | 175 => 130 | 46 => 80 | 210 => 134 | 127 => 141 | 145 => 144 | 143 => 142 | 21 => 21 | 171 => 109 | 173 => 113 | 212 => 137 | 51 => 127 | 20 => 20 | 213 => 138 | 232 => 146 | 233 => 147 | 80 => 148 | n => n, fun | 15 => 3 | 16 => 4 | 17 => 5 | 18 => 6 | 19 => 7 | n => n⟩
theorem Tryz.laysC172 : Go.Proofs.LaysC.n172 Tryz.prog Tryz.laysC172_ren := {
  mixed := by kernel_rfl
  f129 := Tryz.func119.trans (congrArg some (by kernel_rfl))
  f171 := Tryz.func47.trans (congrArg some (by kernel_rfl))
  f172 := Tryz.func59.trans (congrArg some (by kernel_rfl))
  f205 := Tryz.func117.trans (congrArg some (by kernel_rfl))
  f243 := Tryz.func64.trans (congrArg some (by kernel_rfl))
  f244 := Tryz.func72.trans (congrArg some (by kernel_rfl))
  f245 := Tryz.func73.trans (congrArg some (by kernel_rfl))
  f246 := Tryz.func75.trans (congrArg some (by kernel_rfl))
  f247 := Tryz.func92.trans (congrArg some (by kernel_rfl))
  f279 := Tryz.func93.trans (congrArg some (by kernel_rfl))
  f280 := Tryz.func94.trans (congrArg some (by kernel_rfl))
  f281 := Tryz.func95.trans (congrArg some (by kernel_rfl))
  f282 := Tryz.func96.trans (congrArg some (by kernel_rfl))
  f283 := Tryz.func97.trans (congrArg some (by kernel_rfl))
  f284 := Tryz.func98.trans (congrArg some (by kernel_rfl))
  f285 := Tryz.func99.trans (congrArg some (by kernel_rfl))
  f286 := Tryz.func100.trans (congrArg some (by kernel_rfl))
  f287 := Tryz.func115.trans (congrArg some (by kernel_rfl))
  f316 := Tryz.func116.trans (congrArg some (by kernel_rfl))
  f317 := Tryz.func118.trans (congrArg some (by kernel_rfl))
  f318 := Tryz.func120.trans (congrArg some (by kernel_rfl))
  f319 := Tryz.func121.trans (congrArg some (by kernel_rfl))
  f320 := Tryz.func122.trans (congrArg some (by kernel_rfl))
  f321 := Tryz.func128.trans (congrArg some (by kernel_rfl))
  f322 := Tryz.func129.trans (congrArg some (by kernel_rfl))
  f337 := Tryz.func130.trans (congrArg some (by kernel_rfl))
  f338 := Tryz.func131.trans (congrArg some (by kernel_rfl))
  t0 := Tryz.underlying0
  a0 := Tryz.isAgg0
  z0 := Tryz.sizeOf0
  v0 := Tryz.zeroValue0
  t2 := Tryz.underlying2
  a2 := Tryz.isAgg2
  z2 := Tryz.sizeOf2
  v2 := Tryz.zeroValue2
  t3 := Tryz.underlying3
  a3 := Tryz.isAgg3
  z3 := Tryz.sizeOf3
  v3 := Tryz.zeroValue3
  t4 := Tryz.underlying4
  a4 := Tryz.isAgg4
  z4 := Tryz.sizeOf4
  v4 := Tryz.zeroValue4
  t5 := Tryz.underlying5
  a5 := Tryz.isAgg5
  z5 := Tryz.sizeOf5
  v5 := Tryz.zeroValue5
  t9 := Tryz.underlying9
  a9 := Tryz.isAgg9
  z9 := Tryz.sizeOf9
  v9 := Tryz.zeroValue9
  t20 := Tryz.underlying20
  a20 := Tryz.isAgg20
  z20 := Tryz.sizeOf20
  v20 := Tryz.zeroValue20
  t21 := Tryz.underlying21
  a21 := Tryz.isAgg21
  z21 := Tryz.sizeOf21
  v21 := Tryz.zeroValue21
  t37 := Tryz.underlying22
  a37 := Tryz.isAgg22
  z37 := Tryz.sizeOf22
  v37 := Tryz.zeroValue22
  t46 := Tryz.underlying80
  a46 := Tryz.isAgg80
  z46 := Tryz.sizeOf80
  v46 := Tryz.zeroValue80
  t51 := Tryz.underlying127
  a51 := Tryz.isAgg127
  z51 := Tryz.sizeOf127
  v51 := Tryz.zeroValue127
  t53 := Tryz.underlying110
  a53 := Tryz.isAgg110
  z53 := Tryz.sizeOf110
  v53 := Tryz.zeroValue110
  t75 := Tryz.underlying89
  a75 := Tryz.isAgg89
  z75 := Tryz.sizeOf89
  v75 := Tryz.zeroValue89
  t76 := Tryz.underlying90
  a76 := Tryz.isAgg90
  z76 := Tryz.sizeOf90
  v76 := Tryz.zeroValue90
  t85 := Tryz.underlying104
  a85 := Tryz.isAgg104
  z85 := Tryz.sizeOf104
  v85 := Tryz.zeroValue104
  t127 := Tryz.underlying141
  a127 := Tryz.isAgg141
  z127 := Tryz.sizeOf141
  v127 := Tryz.zeroValue141
  t143 := Tryz.underlying142
  a143 := Tryz.isAgg142
  z143 := Tryz.sizeOf142
  v143 := Tryz.zeroValue142
  t145 := Tryz.underlying144
  a145 := Tryz.isAgg144
  z145 := Tryz.sizeOf144
  v145 := Tryz.zeroValue144
  t167 := Tryz.underlying103
  a167 := Tryz.isAgg103
  z167 := Tryz.sizeOf103
  v167 := Tryz.zeroValue103
  t168 := Tryz.underlying106
  a168 := Tryz.isAgg106
  z168 := Tryz.sizeOf106
  v168 := Tryz.zeroValue106
  t171 := Tryz.underlying109
  a171 := Tryz.isAgg109
  z171 := Tryz.sizeOf109
  v171 := Tryz.zeroValue109
  t173 := Tryz.underlying113
  a173 := Tryz.isAgg113
  z173 := Tryz.sizeOf113
  v173 := Tryz.zeroValue113
  t175 := Tryz.underlying130
  a175 := Tryz.isAgg130
  z175 := Tryz.sizeOf130
  v175 := Tryz.zeroValue130
  t210 := Tryz.underlying134
  a210 := Tryz.isAgg134
  z210 := Tryz.sizeOf134
  v210 := Tryz.zeroValue134
  t212 := Tryz.underlying137
  a212 := Tryz.isAgg137
  z212 := Tryz.sizeOf137
  v212 := Tryz.zeroValue137
  t213 := Tryz.underlying138
  a213 := Tryz.isAgg138
  z213 := Tryz.sizeOf138
  t232 := Tryz.underlying146
  a232 := Tryz.isAgg146
  z232 := Tryz.sizeOf146
  v232 := Tryz.zeroValue146
  t233 := Tryz.underlying147
  a233 := Tryz.isAgg147
  z233 := Tryz.sizeOf147
  v233 := Tryz.zeroValue147
  g15 := by kernel_rfl
  g16 := by kernel_rfl
  g17 := by kernel_rfl
  g18 := by kernel_rfl
  g19 := by kernel_rfl
  t80 := Tryz.underlying148
  a80 := Tryz.isAgg148
  z80 := Tryz.sizeOf148
  v80 := Tryz.zeroValue148
  i0 := by kernel_rfl
  i2 := by kernel_rfl
  i3 := by kernel_rfl
  i4 := by kernel_rfl
  i5 := by kernel_rfl
  i9 := by kernel_rfl
  i20 := by kernel_rfl
  i21 := by kernel_rfl
  i37 := by kernel_rfl
  i46 := by kernel_rfl
  i51 := by kernel_rfl
  i53 := by kernel_rfl
  i75 := by kernel_rfl
  i76 := by kernel_rfl
  i80 := by kernel_rfl
  i85 := by kernel_rfl
  i127 := by kernel_rfl
  i143 := by kernel_rfl
  i145 := by kernel_rfl
  i167 := by kernel_rfl
  i168 := by kernel_rfl
  i171 := by kernel_rfl
  i173 := by kernel_rfl
  i175 := by kernel_rfl
  i210 := by kernel_rfl
  i212 := by kernel_rfl
  i232 := by kernel_rfl
  i233 := by kernel_rfl
  m15 := by kernel_rfl
  m16 := by kernel_rfl
  m17 := by kernel_rfl
  m18 := by kernel_rfl
  m19 := by kernel_rfl
  c0 := by kernel_rfl
  c2 := by kernel_rfl
  c3 := by kernel_rfl
  c4 := by kernel_rfl
  c5 := by kernel_rfl
  c9 := by kernel_rfl
  c20 := by kernel_rfl
  c21 := by kernel_rfl
  c37 := by kernel_rfl
  c46 := by kernel_rfl
  c51 := by kernel_rfl
  c53 := by kernel_rfl
  c75 := by kernel_rfl
  c76 := by kernel_rfl
  c80 := by kernel_rfl
  c85 := by kernel_rfl
  c127 := by kernel_rfl
  c143 := by kernel_rfl
  c145 := by kernel_rfl
  c167 := by kernel_rfl
  c168 := by kernel_rfl
  c171 := by kernel_rfl
  c173 := by kernel_rfl
  c175 := by kernel_rfl
  c210 := by kernel_rfl
  c212 := by kernel_rfl
  c213 := by kernel_rfl
  c232 := by kernel_rfl
  c233 := by kernel_rfl }
def Tryz.lays146_ren : Go.Shelf.Ren := ⟨fun | 146 => 18 | 221 => 42 | 268 => 56 | 138 => 57 | 143 => 58 | 195 => 68 | 197 => 69 | 218 => 70 | 219 => 71 | 260 => 87 | 217 => 88 | 225 => 89 | 224 => 90 | 267 => 91 | 266 => 113 | 314 => 114 | n => n, fun | 9 => 9 | 31 => 51 | 3 => 3 | 4 => 4 | 0 => 0 | 105 => 96 | 21 => 21 | 5 => 5 | 46 => 80 | 119 => 123 | 139 => 126 | 138 => 125 | 146 => 128 | 51 => 127 | n => n, fun | 1 => 0 | 3 => 1 | 4 => 2 | n => n⟩
theorem Tryz.lays146 : Go.Proofs.Lays.n146 Tryz.prog Tryz.lays146_ren := {
  mixed := by kernel_rfl
  f138 := Tryz.func57.trans (congrArg some (by kernel_rfl))
  f143 := Tryz.func58.trans (congrArg some (by kernel_rfl))
  f146 := Tryz.func18.trans (congrArg some (by kernel_rfl))
  f195 := Tryz.func68.trans (congrArg some (by kernel_rfl))
  f197 := Tryz.func69.trans (congrArg some (by kernel_rfl))
  f217 := Tryz.func88.trans (congrArg some (by kernel_rfl))
  f218 := Tryz.func70.trans (congrArg some (by kernel_rfl))
  f219 := Tryz.func71.trans (congrArg some (by kernel_rfl))
  f221 := Tryz.func42.trans (congrArg some (by kernel_rfl))
  f224 := Tryz.func90.trans (congrArg some (by kernel_rfl))
  f225 := Tryz.func89.trans (congrArg some (by kernel_rfl))
  f260 := Tryz.func87.trans (congrArg some (by kernel_rfl))
  f266 := Tryz.func113.trans (congrArg some (by kernel_rfl))
  f267 := Tryz.func91.trans (congrArg some (by kernel_rfl))
  f268 := Tryz.func56.trans (congrArg some (by kernel_rfl))
  f314 := Tryz.func114.trans (congrArg some (by kernel_rfl))
  t0 := Tryz.underlying0
  a0 := Tryz.isAgg0
  z0 := Tryz.sizeOf0
  v0 := Tryz.zeroValue0
  t3 := Tryz.underlying3
  a3 := Tryz.isAgg3
  z3 := Tryz.sizeOf3
  v3 := Tryz.zeroValue3
  t4 := Tryz.underlying4
  a4 := Tryz.isAgg4
  z4 := Tryz.sizeOf4
  v4 := Tryz.zeroValue4
  t5 := Tryz.underlying5
  a5 := Tryz.isAgg5
  z5 := Tryz.sizeOf5
  v5 := Tryz.zeroValue5
  t9 := Tryz.underlying9
  a9 := Tryz.isAgg9
  z9 := Tryz.sizeOf9
  v9 := Tryz.zeroValue9
  t21 := Tryz.underlying21
  a21 := Tryz.isAgg21
  z21 := Tryz.sizeOf21
  v21 := Tryz.zeroValue21
  t31 := Tryz.underlying51
  a31 := Tryz.isAgg51
  z31 := Tryz.sizeOf51
  v31 := Tryz.zeroValue51
  t46 := Tryz.underlying80
  a46 := Tryz.isAgg80
  z46 := Tryz.sizeOf80
  v46 := Tryz.zeroValue80
  t51 := Tryz.underlying127
  a51 := Tryz.isAgg127
  z51 := Tryz.sizeOf127
  v51 := Tryz.zeroValue127
  t105 := Tryz.underlying96
  a105 := Tryz.isAgg96
  z105 := Tryz.sizeOf96
  v105 := Tryz.zeroValue96
  t119 := Tryz.underlying123
  a119 := Tryz.isAgg123
  z119 := Tryz.sizeOf123
  t138 := Tryz.underlying125
  a138 := Tryz.isAgg125
  z138 := Tryz.sizeOf125
  v138 := Tryz.zeroValue125
  t139 := Tryz.underlying126
  a139 := Tryz.isAgg126
  z139 := Tryz.sizeOf126
  v139 := Tryz.zeroValue126
  t146 := Tryz.underlying128
  a146 := Tryz.isAgg128
  z146 := Tryz.sizeOf128
  v146 := Tryz.zeroValue128
  g1 := by kernel_rfl
  g3 := by kernel_rfl
  g4 := by kernel_rfl }
end Go.Proofs
namespace Vg
open Go Go.Proofs
set_option maxRecDepth 100000
set_option maxHeartbeats 40000000
theorem pV {a b : Prop} (hb : b) (ha : a) : a ∧ b := ⟨ha, hb⟩
theorem g0 {P : Program} {τ : Tys} {S : AState} {blk : Nat → Option Blk} {dst : Option Nat} {g : Nat} {Ts Ts' : List Nat} {vs vs' vs'' : List AV} {K : AV → Prop} {K' K'' : AState → Prop} {Z : Prop} (h : pB P τ blk g Ts vs K) :
    pB P τ blk g Ts vs K ∨ yC P τ S dst g Ts' vs' K' ∨ oD P S dst g vs'' K'' ∨ Z := .inl h
theorem vB {P : Program} {τ : Tys} {S : AState} {blk : Nat → Option Blk} {dst : Option Nat} {g : Nat} {Ts Ts' : List Nat} {vs vs' vs'' : List AV} {K : AV → Prop} {K' K'' : AState → Prop} {Z : Prop} (h : yC P τ S dst g Ts' vs' K') :
    pB P τ blk g Ts vs K ∨ yC P τ S dst g Ts' vs' K' ∨ oD P S dst g vs'' K'' ∨ Z := .inr (.inl h)
theorem fF {b : Bool} {p : Prop} (h : b = false) (h2 : b = true) : p := Bool.noConfusion (h.symm.trans h2)
theorem a8 {P : Program} {τ : Tys} {S : AState} {blk : Nat → Option Blk} {dst : Option Nat} {g : Nat} {Ts Ts' : List Nat} {vs vs' vs'' : List AV} {K : AV → Prop} {K' K'' : AState → Prop} {Z : Prop} (h : oD P S dst g vs'' K'') :
    pB P τ blk g Ts vs K ∨ yC P τ S dst g Ts' vs' K' ∨ oD P S dst g vs'' K'' ∨ Z := .inr (.inr (.inl h))
theorem u1 {P : Program} {τ : Tys} {S : AState} {blk : Nat → Option Blk} {dst : Option Nat} {g : Nat} {Ts Ts' : List Nat} {vs vs' vs'' : List AV} {K : AV → Prop} {K' K'' : AState → Prop} {Z : Prop} (h : Z) :
    pB P τ blk g Ts vs K ∨ yC P τ S dst g Ts' vs' K' ∨ oD P S dst g vs'' K'' ∨ Z := .inr (.inr (.inr h))
theorem u4 {n : Int} (h1 : -9223372036854775808 ≤ n) (h2 : n < 9223372036854775808) : IntKind.i64.wrap n = n := by
  simp only [IntKind.wrap]
  have e1 : (2 : Int) ^ IntKind.i64.bits = 18446744073709551616 := rfl
  have e2 : (2 : Int) ^ (IntKind.i64.bits - 1) = 9223372036854775808 := rfl
  have e3 : IntKind.i64.signed = true := rfl
  simp only [e1, e2, e3]
  have h3 := Int.emod_emod_of_dvd n (Int.dvd_refl 18446744073709551616)
  split <;> rename_i hc <;> simp at hc <;> omega
theorem wE {k m : Nat} (h : (k : Int) < m) (hm : m ≤ maxLen) : IntKind.i64.wrap ((k : Int) + 1) = ((k + 1 : Nat) : Int) := by
  have : maxLen = 9223372036854775807 := rfl
  rw [u4] <;> omega
theorem sp_T {A B : Prop} (h : A) : (true = true → A) ∧ (true = false → B) := ⟨fun _ => h, fun h => by cases h⟩
theorem sp_F {A B : Prop} (h : B) : (false = true → A) ∧ (false = false → B) := ⟨fun h => (by cases h), fun _ => h⟩
theorem sp_T' {A B : Prop} (h : A) : (true = false → B) ∧ (true = true → A) := ⟨fun h => (by cases h), fun _ => h⟩
theorem sp_F' {A B : Prop} (h : B) : (false = false → B) ∧ (false = true → A) := ⟨fun _ => h, fun h => by cases h⟩
theorem sp_d {p A B : Prop} [Decidable p] (h1 : p → A) (h2 : ¬ p → B) : (decide p = true → A) ∧ (decide p = false → B) := ⟨fun h => h1 (of_decide_eq_true h), fun h => h2 (of_decide_eq_false h)⟩
theorem sp_d' {p A B : Prop} [Decidable p] (h1 : ¬ p → A) (h2 : p → B) : (decide p = false → A) ∧ (decide p = true → B) := ⟨fun h => h1 (of_decide_eq_false h), fun h => h2 (of_decide_eq_true h)⟩
theorem sp_b {b : Bool} {A B : Prop} (h1 : b = true → A) (h2 : b = false → B) : (b = true → A) ∧ (b = false → B) := ⟨h1, h2⟩
theorem sp_b' {b : Bool} {A B : Prop} (h1 : b = false → A) (h2 : b = true → B) : (b = false → A) ∧ (b = true → B) := ⟨h1, h2⟩
theorem sp_nb {b : Bool} {A B : Prop} (h1 : b = false → A) (h2 : b = true → B) : ((!b) = true → A) ∧ ((!b) = false → B) := ⟨fun h => h1 (by simpa using h), fun h => h2 (by simpa using h)⟩
theorem sp_nb' {b : Bool} {A B : Prop} (h1 : b = true → A) (h2 : b = false → B) : ((!b) = false → A) ∧ ((!b) = true → B) := ⟨fun h => h1 (by simpa using h), fun h => h2 (by simpa using h)⟩
theorem bnd2 {a b c d : Int} (h1 : a ≤ b) (h2 : c < d) : a ≤ b ∧ c < d := ⟨h1, h2⟩
theorem bnd2' {a b c d : Int} (h1 : a ≤ b) (h2 : c ≤ d) : a ≤ b ∧ c ≤ d := ⟨h1, h2⟩
theorem bndN {a b c d : Nat} (h1 : a ≤ b) (h2 : c ≤ d) : a ≤ b ∧ c ≤ d := ⟨h1, h2⟩
theorem r0 {σ : List (Nat × Option Nat)} {d' d : Dat} (h : d' = d) : wk σ (.dat d') (.dat d) := h
theorem j0 {σ : List (Nat × Option Nat)} {d' d : Dat} (h : d' = d) : wkC σ (.dat d') (.dat d) := h
theorem kL {α : Type} {f : α → Bool} {l : List α} {k : Nat} (d : α) (h : (k : Int) < l.length) : (l.take (k + 1)).all f = ((l.take k).all f && f (l.getD k d)) := by
  have h' : k < l.length := by omega
  rw [List.take_succ_eq_append_getElem h', List.all_append]
  simp [List.getD_eq_getElem?_getD, h']
theorem pI {α : Type} {f : α → Bool} {l : List α} {k : Nat} {d : α} (h : (k : Int) < l.length) (hf : f (l.getD k d) = false) : l.all f = false := by
  have h' : k < l.length := by omega
  simp only [List.getD_eq_getElem?_getD, List.getElem?_eq_getElem h', Option.getD_some] at hf
  exact List.all_eq_false.2 ⟨l[k], List.getElem_mem h', by simp [hf]⟩
theorem lL {α : Type} {f : α → Bool} {l : List α} {k : Nat} (h : ¬ (k : Int) < l.length) (hf : (l.take k).all f = true) : l.all f = true := by
  rwa [List.take_of_length_le omG] at hf
theorem sp_e {a b : Int} {A B : Prop} (h1 : a = b → A) (h2 : ¬ a = b → B) : ((a == b) = true → A) ∧ ((a == b) = false → B) := ⟨fun h => h1 (by simpa using h), fun h => h2 (by simpa using h)⟩
theorem sp_e' {a b : Int} {A B : Prop} (h1 : ¬ a = b → A) (h2 : a = b → B) : ((a == b) = false → A) ∧ ((a == b) = true → B) := ⟨fun h => h1 (by simpa using h), fun h => h2 (by simpa using h)⟩
theorem sp_n {a b : Int} {A B : Prop} (h1 : ¬ a = b → A) (h2 : a = b → B) : ((a != b) = true → A) ∧ ((a != b) = false → B) := ⟨fun h => h1 (by simpa using h), fun h => h2 (by simpa using h)⟩
theorem sp_n' {a b : Int} {A B : Prop} (h1 : a = b → A) (h2 : ¬ a = b → B) : ((a != b) = false → A) ∧ ((a != b) = true → B) := ⟨fun h => h1 (by simpa using h), fun h => h2 (by simpa using h)⟩
theorem sp_eF {a b : Int} {A B : Prop} (hn : ¬ a = b) (h2 : B) : ((a == b) = true → A) ∧ ((a == b) = false → B) := ⟨fun h => (hn (by simpa using h)).elim, fun _ => h2⟩
theorem sp_eT {a : Int} {A B : Prop} (h1 : A) : ((a == a) = true → A) ∧ ((a == a) = false → B) := ⟨fun _ => h1, fun h => (by simp at h)⟩
theorem sp_dF {p A B : Prop} [Decidable p] (hn : ¬ p) (h2 : B) : (decide p = true → A) ∧ (decide p = false → B) := ⟨fun h => (hn (of_decide_eq_true h)).elim, fun _ => h2⟩
theorem sp_dT {p A B : Prop} [Decidable p] (hn : p) (h2 : A) : (decide p = true → A) ∧ (decide p = false → B) := ⟨fun _ => h2, fun h => (of_decide_eq_false h hn).elim⟩
/-! ### steps that the walks share: what a step leaves is handed on as it is found (the default argument finds it) -/
structure Bx (R : Prop) : Prop where
  u : R
structure SplS (p q A B : Prop) : Prop where
  l : p → A
  r : q → B
section
variable {A B : Prop}
theorem ss_d {p : Prop} [Decidable p] (h : SplS p (¬ p) A B) : (decide p = true → A) ∧ (decide p = false → B) := sp_d h.l h.r
theorem ss_d' {p : Prop} [Decidable p] (h : SplS (¬ p) p A B) : (decide p = false → A) ∧ (decide p = true → B) := sp_d' h.l h.r
theorem ss_e {a b : Int} (h : SplS (a = b) (¬ a = b) A B) : ((a == b) = true → A) ∧ ((a == b) = false → B) := sp_e h.l h.r
theorem ss_e' {a b : Int} (h : SplS (¬ a = b) (a = b) A B) : ((a == b) = false → A) ∧ ((a == b) = true → B) := sp_e' h.l h.r
theorem ss_n {a b : Int} (h : SplS (¬ a = b) (a = b) A B) : ((a != b) = true → A) ∧ ((a != b) = false → B) := sp_n h.l h.r
theorem ss_n' {a b : Int} (h : SplS (a = b) (¬ a = b) A B) : ((a != b) = false → A) ∧ ((a != b) = true → B) := sp_n' h.l h.r
theorem ss_nb {b : Bool} (h : SplS (b = false) (b = true) A B) : ((!b) = true → A) ∧ ((!b) = false → B) := sp_nb h.l h.r
theorem ss_nb' {b : Bool} (h : SplS (b = true) (b = false) A B) : ((!b) = false → A) ∧ ((!b) = true → B) := sp_nb' h.l h.r
theorem ss_b {b : Bool} (h : SplS (b = true) (b = false) A B) : (b = true → A) ∧ (b = false → B) := sp_b h.l h.r
theorem ss_b' {b : Bool} (h : SplS (b = false) (b = true) A B) : (b = false → A) ∧ (b = true → B) := sp_b' h.l h.r
end
theorem u2 {A B G : Prop} (a : Bx A) (b : Bx B) (f : Bx A → Bx B → G := by
    intro a b
    first
    | (with_reducible first | exact bnd2 a.u b.u | exact bnd2' a.u b.u | exact bndN a.u b.u)
    | ((with_reducible refine pV ?_ b.u); (conv => whnf); exact a.u)
    | (with_reducible exact pV a.u b.u)) : G := f a b
theorem zV {X : AV} {Y : List Blk} {Q : AV → List Blk → Prop} (h : Q X Y) : ∀ res B, (res = X ∧ B = Y) → Q res B := fun _ _ ⟨a, b⟩ => by subst a b; exact h
theorem z1 {G : Prop} (x : G := by
    first
    | exact Bool.noConfusion (Eq.trans (Eq.symm h) (show _ = true by with_reducible assumption))
    | exact Bool.noConfusion (Eq.trans (Eq.symm (show _ = false by with_reducible assumption)) h)
    | ((fail_if_success (have _x : @Eq Bool _ _ := h)); contradiction)) : G := x
theorem ctN {G : Prop} (x : G := by
    first
    | exact Bool.noConfusion (Eq.trans (Eq.symm h) (show _ = true by with_reducible assumption))
    | exact Bool.noConfusion (Eq.trans (Eq.symm (show _ = false by with_reducible assumption)) h)
    | ((fail_if_success (have _x : @Eq Bool _ _ := h)); with_reducible contradiction)) : G := x
theorem oV {f : FuncId} {fn : Func} {c : Code} {args : List AV} {X : AV} {R : Prop} (hf : Tryz.prog.funcs[f]? = some fn) (k : Bx R) (h1 : (fn.name == "runtime.NumGoroutine") = false := by exact rfl)
    (hb : fn.body = some c := by exact rfl) (hn : Nat.ble args.length fn.ntmps = true := by exact rfl)
    (h : Bx R → x7 Tryz.prog tau c ⟨fn.ntmps, fun t => args.getD t .any, fun _ => none⟩ (sK tau fn false fun res B' => frz B' X res) := by
      intro k
      (conv => whnf)
      exact k.u) : CallsV Tryz.prog f args X := CallsV.of_awp aJ dN hf h1 hb hn (h k)
theorem oF {f : FuncId} {fn : Func} {c : Code} {args : List AV} {fr : Bool} {Q : AV → List Blk → Prop} {R : Prop} (hf : Tryz.prog.funcs[f]? = some fn) (k : Bx R) (h1 : (fn.name == "runtime.NumGoroutine") = false := by exact rfl)
    (hb : fn.body = some c := by exact rfl) (hn : Nat.ble args.length fn.ntmps = true := by exact rfl)
    (h : Bx R → x7 Tryz.prog tau c ⟨fn.ntmps, fun t => args.getD t .any, fun _ => none⟩ (sK tau fn fr Q) := by
      intro k
      (conv => whnf)
      exact k.u) : CallsF Tryz.prog f args fr Q := CallsF.of_awp aJ dN hf h1 hb hn (h k)
theorem oG {f : FuncId} {fn : Func} {c : Code} {args : List AV} {Bg : List Blk} {m : Nat} {Q : AV → List Blk → Prop} {R : Prop} (hf : Tryz.prog.funcs[f]? = some fn) (k : Bx R) (h1 : (fn.name == "runtime.NumGoroutine") = false := by exact rfl)
    (hb : fn.body = some c := by exact rfl) (hn : (Nat.ble args.length fn.ntmps && Nat.ble m Bg.length) = true := by exact rfl)
    (h : Bx R → x7 Tryz.prog tau c ⟨fn.ntmps, fun t => (args.getD t .any).ren Bg.length 900000, pE Bg⟩ (gpost tau fn m Q) := by
      intro k
      (conv => whnf)
      exact k.u) : CallsG Tryz.prog f args Bg m Q := CallsG.of_awp aJ dN hf h1 hb hn (h k)
abbrev KT := AX → AState → Prop
theorem m0 {R G : Prop} (k : Bx R) (f : Bx R → G := by
    intro k
    first | ((with_reducible first | refine Alt.l ?_ | refine sp_T ?_ | refine sp_F ?_ | refine sp_T' ?_ | refine sp_F' ?_); (conv => whnf); exact k.u) | ((with_reducible refine sp_dF ?_ ?_); decide; (conv => whnf); exact k.u) | ((with_reducible refine sp_dT ?_ ?_); decide; (conv => whnf); exact k.u) | ((with_reducible first | refine ss_d ?_ | refine ss_d' ?_); exact k.u) | ((with_reducible refine sp_eF ?_ ?_); decide; (conv => whnf); exact k.u) | ((with_reducible refine sp_eT ?_); (conv => whnf); exact k.u) | ((with_reducible first | refine ss_e ?_ | refine ss_e' ?_ | refine ss_n ?_ | refine ss_n' ?_ | refine ss_nb ?_ | refine ss_nb' ?_ | refine ss_b ?_ | refine ss_b' ?_); exact k.u) | (refine ⟨(rfl : d7 _ = true), rfl, ?_⟩; first | ((conv => whnf); exact k.u) | exact k.u) | ((with_reducible show w5 _ _ _ _ _ _); (conv => whnf); exact k.u)) : G := f k
theorem j4 {R G : Prop} (k : Bx R) (f : Bx R → G := by
    intro k
    (conv => whnf)
    exact k.u) : G := f k
theorem x5 {G : Prop} (x : G := by contradiction) : G := x
theorem ctR {G : Prop} (x : G := by
    first | exact Bool.noConfusion (Eq.trans (Eq.symm h) (show _ = true by with_reducible assumption)) | exact Bool.noConfusion (Eq.trans (Eq.symm (show _ = false by with_reducible assumption)) h)) : G := x
def inP (n lo hi : Int) : Bool := decide (lo ≤ n) && decide (n ≤ hi)
def regP (n : Int) : Bool := inP n 0 3
def wordP (w a : Int) : Bool := inP w 1 16 && inP a 0 (2 ^ w.toNat - 1)
theorem xE {w : Int} (h : inP w 1 16 = true) : IntKind.i64.wrap (1 * 2 ^ min w.toNat IntKind.i64.bits) = 2 ^ w.toNat := by
  have h' : w.toNat < 17 := by simp [inP] at h; omega
  revert h'
  generalize w.toNat = k
  intro h
  have : ∀ k < 17, IntKind.i64.wrap (1 * 2 ^ min k IntKind.i64.bits) = 2 ^ k := by decide
  exact this k h
theorem uw {w : Int} (h : inP w 1 16 = true) : IntKind.u64.wrap w = w := by
  simp [inP] at h
  have h' : w.toNat < 17 := by omega
  have e : w = (w.toNat : Int) := by omega
  rw [e]
  revert h'
  generalize w.toNat = k
  intro h
  have : ∀ k < 17, IntKind.u64.wrap ((k : Nat) : Int) = k := by decide
  exact this k h
theorem top1 {w : Int} (h : inP w 1 16 = true) : IntKind.i64.wrap (2 ^ w.toNat - 1) = 2 ^ w.toNat - 1 := by
  have h' : w.toNat < 17 := by simp [inP] at h; omega
  revert h'
  generalize w.toNat = k
  intro h
  have : ∀ k < 17, IntKind.i64.wrap ((2 : Int) ^ k - 1) = 2 ^ k - 1 := by decide
  exact this k h
theorem yD (n lo hi : Int) : CallsV Tryz.prog 24 [.dat (.i n), .dat (.i lo), .dat (.i hi)] (.dat (.bool (inP n lo hi))) := by
  refine oV Tryz.func24 ⟨?_⟩
  repeat' (first | ((with_reducible refine fun (K1 : KT) hK => ?_); refine j4 ⟨?_⟩) | ((with_reducible show K1 _ _); subst hK; conv => whnf) | (with_reducible exact rfl) | refine m0 ⟨?_⟩ | ((with_reducible refine SplS.mk (fun h => ?_) (fun h => ?_)) <;> first | exact x5 | (subst h; conv => whnf) | (conv => whnf)) | ((with_reducible refine SplS.mk (fun h => ?_) (fun h => ?_)) <;> first | exact x5 | (conv => whnf)) | (intro h; conv => whnf))
  all_goals repeat clear hK K1
  all_goals simp [inP, *]
theorem fQ (n : Int) : CallsV Tryz.prog 41 [.dat (.i n)] (.dat (.bool (regP n))) := by
  refine oV Tryz.func41 ⟨?_⟩
  repeat' (first | ((with_reducible refine fun (K1 : KT) hK => ?_); refine j4 ⟨?_⟩) | ((with_reducible show K1 _ _); subst hK; conv => whnf) | (with_reducible exact rfl) | refine m0 ⟨?_⟩ | ((with_reducible refine SplS.mk (fun h => ?_) (fun h => ?_)) <;> first | exact x5 | (subst h; conv => whnf) | (conv => whnf)) | ((with_reducible refine SplS.mk (fun h => ?_) (fun h => ?_)) <;> first | exact x5 | (conv => whnf)) | ((with_reducible first | refine g0 (g := 24) ?_ | show Exists _); refine ⟨_, yD .., rfl, ?_⟩; rotate_right; conv => whnf) | (intro h; conv => whnf))
  all_goals repeat clear hK K1
  all_goals first | rfl | assumption | exact Bool.noConfusion (h.symm.trans hp) | (simp_all []; done) | grind [] | (simp_all []; omega)
theorem hJ (w a : Int) : CallsV Tryz.prog 26 [.dat (.i w), .dat (.i a)] (.dat (.bool (wordP w a))) := by
  refine oV Tryz.func26 ⟨?_⟩
  repeat' (first | ((with_reducible refine fun (K1 : KT) hK => ?_); refine j4 ⟨?_⟩) | ((with_reducible show K1 _ _); subst hK; conv => whnf) | (with_reducible exact rfl) | refine m0 ⟨?_⟩ | ((with_reducible refine SplS.mk (fun h => ?_) (fun h => ?_)) <;> first | exact x5 | (subst h; conv => whnf) | (conv => whnf)) | ((with_reducible refine SplS.mk (fun h => ?_) (fun h => ?_)) <;> first | exact x5 | (conv => whnf)) | refine u2 ⟨?_⟩ ⟨?_⟩ | ((with_reducible first | refine g0 (g := 24) ?_ | show Exists _); refine ⟨_, yD .., rfl, ?_⟩; rotate_right; conv => whnf) | (intro h; conv => whnf))
  all_goals repeat clear hK K1
  · have h1 := h
    simp only [wordP, h1, xE h1, top1 h1, Bool.true_and]
  · have h1 := h
    simp [inP] at h1; omega
  · simp only [wordP, h, Bool.false_and]
theorem wY (w a : Int) : CallsV Tryz.prog 60 [.dat (.i w), .dat (.i a)] (.dat (.bool (inP w 2 8 && inP a 1 40))) := by
  refine oV Tryz.func60 ⟨?_⟩
  repeat' (first | ((with_reducible refine fun (K1 : KT) hK => ?_); refine j4 ⟨?_⟩) | ((with_reducible show K1 _ _); subst hK; conv => whnf) | (with_reducible exact rfl) | refine m0 ⟨?_⟩ | ((with_reducible refine SplS.mk (fun h => ?_) (fun h => ?_)) <;> first | exact x5 | (subst h; conv => whnf) | (conv => whnf)) | ((with_reducible refine SplS.mk (fun h => ?_) (fun h => ?_)) <;> first | exact x5 | (conv => whnf)) | (intro h; conv => whnf))
  all_goals repeat clear hK K1
  all_goals first | rfl | assumption | exact Bool.noConfusion (h.symm.trans hp) | (simp_all [inP]; done) | grind [inP] | (simp_all [inP]; omega)
theorem qK (w : Int) : CallsV Tryz.prog 67 [.dat (.i w)] (.dat (.bool (inP w 1 16))) := by
  refine oV Tryz.func67 ⟨?_⟩
  repeat' (first | ((with_reducible refine fun (K1 : KT) hK => ?_); refine j4 ⟨?_⟩) | ((with_reducible show K1 _ _); subst hK; conv => whnf) | (with_reducible exact rfl) | refine m0 ⟨?_⟩ | ((with_reducible refine SplS.mk (fun h => ?_) (fun h => ?_)) <;> first | exact x5 | (subst h; conv => whnf) | (conv => whnf)) | ((with_reducible refine SplS.mk (fun h => ?_) (fun h => ?_)) <;> first | exact x5 | (conv => whnf)) | (intro h; conv => whnf))
  all_goals repeat clear hK K1
  all_goals first | rfl | assumption | exact Bool.noConfusion (h.symm.trans hp) | (simp_all [inP]; done) | grind [inP] | (simp_all [inP]; omega)
theorem jZ (w : Int) : CallsV Tryz.prog 74 [.dat (.i w)] (.dat (.bool (inP w 3 16))) := by
  refine oV Tryz.func74 ⟨?_⟩
  repeat' (first | ((with_reducible refine fun (K1 : KT) hK => ?_); refine j4 ⟨?_⟩) | ((with_reducible show K1 _ _); subst hK; conv => whnf) | (with_reducible exact rfl) | refine m0 ⟨?_⟩ | ((with_reducible refine SplS.mk (fun h => ?_) (fun h => ?_)) <;> first | exact x5 | (subst h; conv => whnf) | (conv => whnf)) | ((with_reducible refine SplS.mk (fun h => ?_) (fun h => ?_)) <;> first | exact x5 | (conv => whnf)) | (intro h; conv => whnf))
  all_goals repeat clear hK K1
  all_goals first | rfl | assumption | exact Bool.noConfusion (h.symm.trans hp) | (simp_all [inP]; done) | grind [inP] | (simp_all [inP]; omega)
theorem dT (w : Int) : CallsV Tryz.prog 62 [.dat (.i w)] (.dat (.bool (regP w))) := by
  refine oV Tryz.func62 ⟨?_⟩
  repeat' (first | ((with_reducible refine fun (K1 : KT) hK => ?_); refine j4 ⟨?_⟩) | ((with_reducible show K1 _ _); subst hK; conv => whnf) | (with_reducible exact rfl) | refine m0 ⟨?_⟩ | ((with_reducible refine SplS.mk (fun h => ?_) (fun h => ?_)) <;> first | exact x5 | (subst h; conv => whnf) | (conv => whnf)) | ((with_reducible refine SplS.mk (fun h => ?_) (fun h => ?_)) <;> first | exact x5 | (conv => whnf)) | (intro h; conv => whnf))
  all_goals repeat clear hK K1
  all_goals first | rfl | assumption | exact Bool.noConfusion (h.symm.trans hp) | (simp_all [inP, regP]; done) | grind [inP, regP] | (simp_all [inP, regP]; omega)
theorem dB (w a : Int) : CallsV Tryz.prog 53 [.dat (.i w), .dat (.i a)] (.dat (.bool (wordP w a))) := by
  refine oV Tryz.func53 ⟨?_⟩
  repeat' (first | ((with_reducible refine fun (K1 : KT) hK => ?_); refine j4 ⟨?_⟩) | ((with_reducible show K1 _ _); subst hK; conv => whnf) | (with_reducible exact rfl) | refine m0 ⟨?_⟩ | ((with_reducible refine SplS.mk (fun h => ?_) (fun h => ?_)) <;> first | exact x5 | (subst h; conv => whnf) | (conv => whnf)) | ((with_reducible refine SplS.mk (fun h => ?_) (fun h => ?_)) <;> first | exact x5 | (conv => whnf)) | refine u2 ⟨?_⟩ ⟨?_⟩ | ((with_reducible first | refine g0 (g := 67) ?_ | show Exists _); refine ⟨_, qK .., rfl, ?_⟩; rotate_right; conv => whnf) | (intro h; conv => whnf))
  all_goals repeat clear hK K1
  · rename_i h1
    have e := uw h1
    have e2 := xE h1
    have ha : 0 ≤ a := h
    rw [e, e2]
    simp only [wordP, h1, Bool.true_and]
    simp only [inP, decide_eq_true ha, Bool.true_and]
    exact congrArg Dat.bool (decide_eq_decide.2 omG)
  · rename_i h1
    rw [uw h1]
    simp [inP] at h1; omega
  · have ha : ¬ 0 ≤ a := h
    simp [wordP, inP, ha]
  · simp only [wordP, h, Bool.false_and]
def u6 (i : V.Ins) (w size : Int) : Bool :=
  if i.op = 1 then regP i.a && wordP w i.b && decide (i.c = 0)
  else if i.op = 2 ∨ i.op = 7 ∨ i.op = 8 then regP i.a && regP i.b && decide (i.c = 0)
  else if i.op = 3 then regP i.a && regP i.b && inP i.c 3 16
  else if i.op = 4 ∨ i.op = 5 ∨ i.op = 6 ∨ i.op = 13 then regP i.a && decide (i.b = 0) && decide (i.c = 0)
  else if i.op = 9 ∨ i.op = 11 then decide (i.a = 0) && inP i.b 0 size && decide (i.c = 0)
  else if i.op = 10 then regP i.a && inP i.b 0 size && decide (i.c = 0)
  else if i.op = 12 ∨ i.op = 14 then decide (i.a = 0) && decide (i.b = 0) && decide (i.c = 0)
  else false
theorem oW (op a b c w size : Int) : CallsV Tryz.prog 55 [.agg [.dat (.i op), .dat (.i a), .dat (.i b), .dat (.i c)], .dat (.i w), .dat (.i size)] (.dat (.bool (u6 ⟨op, a, b, c⟩ w size))) := by
  refine oV Tryz.func55 ⟨?_⟩
  repeat' (first | ((with_reducible refine fun (K1 : KT) hK => ?_); refine j4 ⟨?_⟩) | ((with_reducible show K1 _ _); subst hK; conv => whnf) | (with_reducible exact rfl) | refine m0 ⟨?_⟩ | ((with_reducible refine SplS.mk (fun h => ?_) (fun h => ?_)) <;> first | exact x5 | (subst h; conv => whnf) | (conv => whnf)) | ((with_reducible first | refine g0 (g := 24) ?_ | show Exists _); refine ⟨_, yD .., rfl, ?_⟩; rotate_right; conv => whnf) | ((with_reducible first | refine g0 (g := 41) ?_ | show Exists _); refine ⟨_, fQ .., rfl, ?_⟩; rotate_right; conv => whnf) | ((with_reducible first | refine g0 (g := 26) ?_ | show Exists _); refine ⟨_, hJ .., rfl, ?_⟩; rotate_right; conv => whnf) | (intro h; conv => whnf))
  all_goals repeat clear hK K1
  all_goals first | (simp [u6, *]; done) | (simp [u6, *]; rfl)
theorem i_insOk (op a b c w size : Int) : CallsV Tryz.prog 61 [.agg [.dat (.i op), .dat (.i a), .dat (.i b), .dat (.i c)], .dat (.i w), .dat (.i size)] (.dat (.bool (u6 ⟨op, a, b, c⟩ w size))) := by
  refine oV Tryz.func61 ⟨?_⟩
  repeat' (first | ((with_reducible refine fun (K1 : KT) hK => ?_); refine j4 ⟨?_⟩) | ((with_reducible show K1 _ _); subst hK; conv => whnf) | (with_reducible exact rfl) | refine m0 ⟨?_⟩ | ((with_reducible refine SplS.mk (fun h => ?_) (fun h => ?_)) <;> first | exact x5 | ((fail_if_success (have _x : @Eq Bool _ _ := h)); subst h; conv => whnf) | (conv => whnf)) | ((with_reducible first | refine g0 (g := 62) ?_ | show Exists _); refine ⟨_, dT .., rfl, ?_⟩; rotate_right; conv => whnf) | ((with_reducible first | refine g0 (g := 74) ?_ | show Exists _); refine ⟨_, jZ .., rfl, ?_⟩; rotate_right; conv => whnf) | ((with_reducible first | refine g0 (g := 53) ?_ | show Exists _); refine ⟨_, dB .., rfl, ?_⟩; rotate_right; conv => whnf) | (intro h; conv => whnf))
  all_goals repeat clear hK K1
  all_goals first | (simp [u6, inP, *]; done) | (simp [u6, *]; rfl)
def progP (p : V.Prog) : Bool :=
  inP p.w 2 8 && inP p.mem 1 6 && wordP p.w p.mem && inP p.inn 0 3 && inP p.code.length 1 40 && p.code.all fun i => u6 i p.w p.code.length
theorem qW (w mem inn : Int) (code : List V.Ins) : CallsV Tryz.prog 40 [.agg [.dat (.i w), .dat (.i mem), .dat (.i inn), .dat (.seq .inss code)]] (.dat (.bool (progP ⟨w, mem, inn, code⟩))) := by
  refine oV Tryz.func40 ⟨?_⟩
  repeat' (first | ((with_reducible refine fun (K1 : KT) hK => ?_); refine j4 ⟨?_⟩) | ((with_reducible show K1 _ _); subst hK; conv => whnf) | (with_reducible exact rfl) | refine m0 ⟨?_⟩ | ((with_reducible refine SplS.mk (fun h => ?_) (fun h => ?_)) <;> first | exact x5 | (subst h; conv => whnf) | (conv => whnf)) | refine u2 ⟨?_⟩ ⟨?_⟩ | (refine Exists.intro ({k : Nat // (code.take k).all (fun i => u6 i w code.length) = true}) (Exists.intro (fun ⟨k, hall⟩ => z7 Tryz.f40.ntmps [(1, .ptr 1 0), (37, .dat (.seq .inss code)), (38, .dat (.i code.length)), (39, .dat (.i k))] [(1, .box [.dat (.i w), .dat (.i mem), .dat (.i inn), .dat (.seq .inss code)])]) (Exists.intro (fun ⟨k, hall⟩ => code.length - k) (Exists.intro ⟨0, rfl⟩ (And.intro (SubP.sub (σ := [(1, some 1)]) ⟨⟨rfl, rfl, rfl⟩, ⟨⟨rfl, rfl⟩, r0 ?_, r0 ?_, r0 ?_, trivial⟩, ⟨⟨j0 ?_, j0 ?_, j0 ?_, j0 ?_, trivial⟩, trivial⟩⟩) (fun ⟨k, hall⟩ => ?_))))); rotate_right; conv => whnf) | (refine Exists.intro ⟨k + 1, ?_⟩ (And.intro ?_ (SubP.sub (σ := [(1, some 1)]) ⟨⟨rfl, rfl, rfl⟩, ⟨⟨rfl, rfl⟩, r0 ?_, r0 ?_, r0 ?_, trivial⟩, ⟨⟨j0 ?_, j0 ?_, j0 ?_, j0 ?_, trivial⟩, trivial⟩⟩))) | ((with_reducible first | refine g0 (g := 24) ?_ | show Exists _); refine ⟨_, yD .., rfl, ?_⟩; rotate_right; conv => whnf) | ((with_reducible first | refine g0 (g := 26) ?_ | show Exists _); refine ⟨_, hJ .., rfl, ?_⟩; rotate_right; conv => whnf) | ((with_reducible first | refine g0 (g := 55) ?_ | show Exists _); refine ⟨_, oW .., rfl, ?_⟩; rotate_right; conv => whnf) | (intro h; conv => whnf))
  all_goals repeat clear hK K1
  all_goals first | rfl | assumption | exact Bool.noConfusion (h.symm.trans hp) | omega | (dsimp only; omega) | exact congrArg (Dat.int .i64) (wE (by assumption) (by assumption)).symm | (simp [progP, *]; done) | (rw [kL K.inss.dflt (by assumption), hall]; exact h) | (simp only [progP]; rw [pI (f := fun i => u6 i w code.length) (by assumption) h, Bool.and_false]) | (simp only [progP]; rw [lL h hall]; simp [*])
theorem qZ (w mem inn : Int) (code : List V.Ins) : CallsV Tryz.prog 45 [.agg [.dat (.i w), .dat (.i mem), .dat (.i inn), .dat (.seq .inss code)]] (.dat (.bool (progP ⟨w, mem, inn, code⟩))) := by
  refine oV Tryz.func45 ⟨?_⟩
  repeat' (first | ((with_reducible refine fun (K1 : KT) hK => ?_); refine j4 ⟨?_⟩) | ((with_reducible show K1 _ _); subst hK; conv => whnf) | (with_reducible exact rfl) | refine m0 ⟨?_⟩ | ((with_reducible refine SplS.mk (fun h => ?_) (fun h => ?_)) <;> first | exact x5 | (subst h; conv => whnf) | (conv => whnf)) | refine u2 ⟨?_⟩ ⟨?_⟩ | (refine Exists.intro ({k : Nat // (code.take k).all (fun i => u6 i w code.length) = true}) (Exists.intro (fun ⟨k, hall⟩ => z7 Tryz.f45.ntmps [(1, .ptr 1 0), (39, .dat (.seq .inss code)), (40, .dat (.i code.length)), (41, .dat (.i k))] [(1, .box [.dat (.i w), .dat (.i mem), .dat (.i inn), .dat (.seq .inss code)])]) (Exists.intro (fun ⟨k, hall⟩ => code.length - k) (Exists.intro ⟨0, rfl⟩ (And.intro (SubP.sub (σ := [(1, some 1)]) ⟨⟨rfl, rfl, rfl⟩, ⟨⟨rfl, rfl⟩, r0 ?_, r0 ?_, r0 ?_, trivial⟩, ⟨⟨j0 ?_, j0 ?_, j0 ?_, j0 ?_, trivial⟩, trivial⟩⟩) (fun ⟨k, hall⟩ => ?_))))); rotate_right; conv => whnf) | (refine Exists.intro ⟨k + 1, ?_⟩ (And.intro ?_ (SubP.sub (σ := [(1, some 1)]) ⟨⟨rfl, rfl, rfl⟩, ⟨⟨rfl, rfl⟩, r0 ?_, r0 ?_, r0 ?_, trivial⟩, ⟨⟨j0 ?_, j0 ?_, j0 ?_, j0 ?_, trivial⟩, trivial⟩⟩))) | ((with_reducible first | refine g0 (g := 60) ?_ | show Exists _); refine ⟨_, wY .., rfl, ?_⟩; rotate_right; conv => whnf) | ((with_reducible first | refine g0 (g := 53) ?_ | show Exists _); refine ⟨_, dB .., rfl, ?_⟩; rotate_right; conv => whnf) | ((with_reducible first | refine g0 (g := 61) ?_ | show Exists _); refine ⟨_, i_insOk .., rfl, ?_⟩; rotate_right; conv => whnf) | (intro h; conv => whnf))
  all_goals repeat clear hK K1
  all_goals first | rfl | assumption | exact Bool.noConfusion (h.symm.trans hp) | omega | (dsimp only; omega) | exact congrArg (Dat.int .i64) (wE (by assumption) (by assumption)).symm | (simp [progP, *]; done) | (rw [kL K.inss.dflt (by assumption), hall]; exact h) | (simp only [progP]; rw [pI (f := fun i => u6 i w code.length) (by assumption) h, Bool.and_false]) | (simp only [progP]; rw [lL h hall]; clear hall h; simp_all [inP] <;> omega) | (simp_all [progP, inP]; omega) | (simp_all [progP, inP]; done)
theorem zP {κ : K} {l l' : List κ.T} (h : l = l') : (⟨κ, l⟩ : (κ : K) × List κ.T) = ⟨κ, l'⟩ := by rw [h]
theorem set_mid {α : Type} {a : List α} {k : Nat} (d z : α) (h : (k : Int) < a.length) : (a.take k ++ List.replicate (a.length - k) z).set k (a.getD k d) = a.take (k + 1) ++ List.replicate (a.length - (k + 1)) z := by
  have h' : k < a.length := by omega
  apply List.ext_getElem?
  intro i
  simp only [List.getElem?_set, List.getElem?_append, List.length_take, List.getElem?_take, List.getElem?_replicate, List.length_append, List.length_replicate, List.getD_eq_getElem?_getD]
  rcases Nat.lt_trichotomy i k with h1 | h1 | h1
  · simp [show ¬ k = i from by omega, show i < min k a.length from by omega, show i < min (k + 1) a.length from by omega, show i < k from h1, show i < k + 1 from by omega]
  · subst h1
    simp [h', show i < min (i + 1) a.length from by omega, show i < min i a.length + (a.length - i) from by omega]
  · simp [show ¬ k = i from by omega, show ¬ i < min k a.length from by omega, show ¬ i < min (k + 1) a.length from by omega]
    have e1 : min k a.length = k := by omega
    have e2 : min (k + 1) a.length = k + 1 := by omega
    simp only [e1, e2]
    by_cases h2 : i - k < a.length - k
    · simp [h2, show i - (k + 1) < a.length - (k + 1) from by omega]
    · simp [h2, show ¬ i - (k + 1) < a.length - (k + 1) from by omega]
theorem gW {α : Type} {a : List α} {k : Nat} {z : α} (h : ¬ (k : Int) < a.length) : a.take k ++ List.replicate (a.length - k) z = a := by
  rw [List.take_of_length_le omG, show a.length - k = 0 from by omega]; simp
def factP (w : Int) (f : V.Fact) : Bool :=
  if regP f.a = false then false
  else if f.kind = 1 then decide (f.b = 0) && wordP w f.n
  else if f.kind = 2 then regP f.b && decide (f.a < f.b) && decide (f.n = 0)
  else if f.kind = 3 then decide (f.b = 0) && wordP w f.n && decide (f.n < 2 ^ w.toNat - 1)
  else if f.kind = 4 then inP f.b 0 (w - 1) && inP f.n 0 1
  else if f.kind = 5 then regP f.b && decide (f.a < f.b) && wordP w f.n
  else if f.kind = 6 then regP f.b && !decide (f.a = f.b) && decide (f.n = 0)
  else false
theorem pN (w : Int) (hw : inP w 1 16 = true) : CallsV Tryz.prog 63 [.dat (.i w)] (.dat (.i (2 ^ w.toNat - 1))) := by
  refine oV Tryz.func63 ⟨?_⟩
  repeat' (first | ((with_reducible refine fun (K1 : KT) hK => ?_); refine j4 ⟨?_⟩) | ((with_reducible show K1 _ _); subst hK; conv => whnf) | (with_reducible exact rfl) | refine m0 ⟨?_⟩ | ((with_reducible refine SplS.mk (fun h => ?_) (fun h => ?_)) <;> first | exact x5 | (subst h; conv => whnf) | (conv => whnf)) | refine u2 ⟨?_⟩ ⟨?_⟩ | (intro h; conv => whnf))
  all_goals repeat clear hK K1
  · rw [uw hw, xE hw, top1 hw]
  · rw [uw hw]; simp [inP] at hw; omega
theorem lZ (w k a b n : Int) (hw : inP w 1 16 = true) : CallsV Tryz.prog 46 [.dat (.i w), .agg [.dat (.i k), .dat (.i a), .dat (.i b), .dat (.i n)]] (.dat (.bool (factP w ⟨k, a, b, n⟩))) := by
  refine oV Tryz.func46 ⟨?_⟩
  repeat' (first | ((with_reducible refine fun (K1 : KT) hK => ?_); refine j4 ⟨?_⟩) | ((with_reducible show K1 _ _); subst hK; conv => whnf) | (with_reducible exact rfl) | refine m0 ⟨?_⟩ | ((with_reducible refine SplS.mk (fun h => ?_) (fun h => ?_)) <;> first | exact x5 | (subst h; conv => whnf) | (conv => whnf)) | ((with_reducible first | refine g0 (g := 62) ?_ | show Exists _); refine ⟨_, dT .., rfl, ?_⟩; rotate_right; conv => whnf) | ((with_reducible first | refine g0 (g := 53) ?_ | show Exists _); refine ⟨_, dB .., rfl, ?_⟩; rotate_right; conv => whnf) | ((with_reducible first | refine g0 (g := 63) ?_ | show Exists _); refine ⟨_, pN (hw := ?_) .., rfl, ?_⟩; rotate_right; conv => whnf) | (intro h; conv => whnf))
  all_goals repeat clear hK K1
  all_goals first | assumption | (simp_all [factP, inP]; done) | (simp_all [factP, inP]; omega) | (simp_all [factP, inP]; rw [Bool.eq_iff_iff]; simp <;> omega)
theorem mJ {p : V.Prog} (h : progP p = true) : inP p.w 1 16 = true := by
  simp [progP, inP] at h
  simp [inP]; omega
theorem rN (w mem inn : Int) (code : List V.Ins) (k a b n : Int) : CallsV Tryz.prog 21 [.agg [.dat (.i w), .dat (.i mem), .dat (.i inn), .dat (.seq .inss code)], .agg [.dat (.i k), .dat (.i a), .dat (.i b), .dat (.i n)]] (.dat (.bool (progP ⟨w, mem, inn, code⟩ && factP w ⟨k, a, b, n⟩))) := by
  refine oV Tryz.func21 ⟨?_⟩
  repeat' (first | ((with_reducible refine fun (K1 : KT) hK => ?_); refine j4 ⟨?_⟩) | ((with_reducible show K1 _ _); subst hK; conv => whnf) | (with_reducible exact rfl) | refine m0 ⟨?_⟩ | ((with_reducible refine SplS.mk (fun h => ?_) (fun h => ?_)) <;> first | exact x5 | (subst h; conv => whnf) | (conv => whnf)) | ((with_reducible first | refine g0 (g := 45) ?_ | show Exists _); refine ⟨_, qZ .., rfl, ?_⟩; rotate_right; conv => whnf) | ((with_reducible first | refine g0 (g := 46) ?_ | show Exists _); refine ⟨_, lZ (hw := ?_) .., rfl, ?_⟩; rotate_right; conv => whnf) | (intro h; conv => whnf))
  all_goals repeat clear hK K1
  all_goals first | (simp only [*, Bool.true_and, Bool.false_and]; done) | exact mJ h
theorem sM {p : V.Prog} (h : progP p = true) : 2 ≤ p.w ∧ p.w ≤ 8 := by
  simp [progP, inP] at h
  omega
theorem dX {p : V.Prog} (h : progP p = true) : IntKind.i64.wrap (IntKind.i64.wrap (1 * 2 ^ min p.w.toNat IntKind.i64.bits) - 1) = 2 ^ p.w.toNat - 1 := by
  rw [xE (mJ h), top1 (mJ h)]
theorem eX {p : V.Prog} (h : progP p = true) : IntKind.i64.wrap (p.w - 1) = p.w - 1 := by
  have := sM h
  rw [u4] <;> omega
theorem rW (w mem inn : Int) (code : List V.Ins) (k a b n : Int) : CallsV Tryz.prog 17 [.agg [.dat (.i w), .dat (.i mem), .dat (.i inn), .dat (.seq .inss code)], .agg [.dat (.i k), .dat (.i a), .dat (.i b), .dat (.i n)]] (.dat (.bool (progP ⟨w, mem, inn, code⟩ && factP w ⟨k, a, b, n⟩))) := by
  refine oV Tryz.func17 ⟨?_⟩
  repeat' (first | ((with_reducible refine fun (K1 : KT) hK => ?_); refine j4 ⟨?_⟩) | ((with_reducible show K1 _ _); subst hK; conv => whnf) | (with_reducible exact rfl) | refine m0 ⟨?_⟩ | ((with_reducible refine SplS.mk (fun h => ?_) (fun h => ?_)) <;> first | exact x5 | (subst h; conv => whnf) | (conv => whnf)) | refine u2 ⟨?_⟩ ⟨?_⟩ | ((with_reducible first | refine g0 (g := 40) ?_ | show Exists _); refine ⟨_, qW .., rfl, ?_⟩; rotate_right; conv => whnf) | ((with_reducible first | refine g0 (g := 41) ?_ | show Exists _); refine ⟨_, fQ .., rfl, ?_⟩; rotate_right; conv => whnf) | ((with_reducible first | refine g0 (g := 26) ?_ | show Exists _); refine ⟨_, hJ .., rfl, ?_⟩; rotate_right; conv => whnf) | ((with_reducible first | refine g0 (g := 24) ?_ | show Exists _); refine ⟨_, yD .., rfl, ?_⟩; rotate_right; conv => whnf) | (intro h; conv => whnf))
  all_goals repeat clear hK K1
  all_goals first
    | (simp only [*, Bool.false_and]; done)
    | (have hp : progP ⟨w, mem, inn, code⟩ = true := by assumption
       have hr : 2 ≤ w ∧ w ≤ 8 := sM hp
       have e1 := dX hp
       have e2 := eX hp
       first | omega | (simp only [hp, e1, Bool.true_and]; simp [factP, *]; done) | (simp only [hp, Bool.true_and]; simp [factP, *]; rfl) | (simp only [hp, e1, e2, Bool.true_and] at *; simp [factP, *] <;> omega))
end Vg
