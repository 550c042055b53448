/- The table of types of the program. No condition. -/
import Derived.Test.YtcdepophgnlphaaDoorTy
import Derived.Test.YtcdepophgnlphaaDoorProg
import Derived.Shelf.Small.Strs
import Derived.Shelf.Strconv.Itoa3
import Derived.Shelf.Strconv.AtoiAll
import Derived.Shelf.Strings.Cut
import Derived.Shelf.Strings.BuilderF
namespace Vg
open Go Go.Proofs
set_option maxRecDepth 100000
set_option maxHeartbeats 40000000
def ty3 : TyI := ⟨false, 1, 8, [.int .i64 0], [.int .i64 0], .int .i64⟩
def ty4 : TyI := ⟨false, 1, 1, [.bool false], [.bool false], .bool⟩
def ty2 : TyI := ⟨false, 1, 8, [.int .i64 0], [.int .i64 0], .int .i64⟩
def ty5 : TyI := ⟨false, 1, 1, [.int .u8 0], [.int .u8 0], .int .u8⟩
def ty6 : TyI := ⟨false, 1, 1, [.int .u8 0], [.int .u8 0], .int .u8⟩
def ty7 : TyI := ⟨true, 4, 24, [.int .i64 0, .int .i64 0, .bool false, .int .u8 0], [.int .i64 0, .int .i64 0, .bool false, .int .u8 0], .flds [(0, 2), (1, 3), (2, 4), (3, 6)]⟩
def ty8 : TyI := ⟨true, 4, 24, [.int .i64 0, .int .i64 0, .bool false, .int .u8 0], [.int .i64 0, .int .i64 0, .bool false, .int .u8 0], .flds [(0, 2), (1, 3), (2, 4), (3, 6)]⟩
def ty9 : TyI := ⟨false, 1, 16, [.string ByteArray.empty], [.str ByteArray.empty], .str⟩
def ty10 : TyI := ⟨false, 1, 16, [.string ByteArray.empty], [.str ByteArray.empty], .str⟩
def ty11 : TyI := ⟨false, 1, 16, [.string ByteArray.empty], [.str ByteArray.empty], .str⟩
def ty12 : TyI := ⟨false, 1, 8, [.int .u64 0], [.int .u64 0], .int .u64⟩
def ty13 : TyI := ⟨true, 2, 24, [.string ByteArray.empty, .int .u64 0], [.str ByteArray.empty, .int .u64 0], .flds [(0, 9), (1, 12)]⟩
def ty14 : TyI := ⟨true, 2, 24, [.string ByteArray.empty, .int .u64 0], [.str ByteArray.empty, .int .u64 0], .flds [(0, 9), (1, 12)]⟩
def ty20 : TyI := ⟨false, 1, 16, [.nilIface], [.err false], .iface⟩
def ty21 : TyI := ⟨false, 1, 4, [.int .i32 0], [.int .i32 0], .int .i32⟩
def ty22 : TyI := ⟨false, 1, 24, [.slice none 0 0], [.seq .terms []], .slice 24 .terms⟩
def ty23 : TyI := ⟨true, 5, 64, [.int .i64 0, .int .i64 0, .int .i64 0, .string ByteArray.empty, .slice none 0 0], [.int .i64 0, .int .i64 0, .int .i64 0, .str ByteArray.empty, .seq .terms []], .flds [(0, 3), (1, 3), (2, 3), (3, 9), (4, 22)]⟩
def ty24 : TyI := ⟨true, 5, 64, [.int .i64 0, .int .i64 0, .int .i64 0, .string ByteArray.empty, .slice none 0 0], [.int .i64 0, .int .i64 0, .int .i64 0, .str ByteArray.empty, .seq .terms []], .flds [(0, 3), (1, 3), (2, 3), (3, 9), (4, 22)]⟩
def ty31 : TyI := ⟨false, 1, 24, [.slice none 0 0], [.seq .strs []], .slice 9 .strs⟩
def ty33 : TyI := ⟨true, 2, 32, [.slice none 0 0, .int .i64 0], [.seq .strs [], .int .i64 0], .flds [(0, 31), (1, 3)]⟩
def ty34 : TyI := ⟨true, 2, 32, [.slice none 0 0, .int .i64 0], [.seq .strs [], .int .i64 0], .flds [(0, 31), (1, 3)]⟩
def ty39 : TyI := ⟨true, 3, 32, [.string ByteArray.empty, .int .i64 0, .int .i64 0], [.str ByteArray.empty, .int .i64 0, .int .i64 0], .flds [(0, 9), (1, 3), (2, 3)]⟩
def ty40 : TyI := ⟨true, 3, 32, [.string ByteArray.empty, .int .i64 0, .int .i64 0], [.str ByteArray.empty, .int .i64 0, .int .i64 0], .flds [(0, 9), (1, 3), (2, 3)]⟩
def ty50 : TyI := ⟨false, 1, 24, [.slice none 0 0], [.seq .vals []], .slice 73 .vals⟩
def ty60 : TyI := ⟨false, 1, 8, [.map none], [], .map⟩
def ty61 : TyI := ⟨true, 2, 16, [.int .i64 0, .map none], [], .flds [(0, 3), (1, 60)]⟩
def ty62 : TyI := ⟨true, 2, 16, [.int .i64 0, .map none], [], .flds [(0, 3), (1, 60)]⟩
def ty64 : TyI := ⟨false, 1, 24, [.slice none 0 0], [.seq .bytes []], .slice 5 .bytes⟩
def ty66 : TyI := ⟨true, 2, 32, [.pointer none, .slice none 0 0], [], .flds [(0, 63), (1, 64)]⟩
def ty70 : TyI := ⟨false, 1, 24, [.slice none 0 0], [.seq .ints []], .slice 3 .ints⟩
def ty72 : TyI := ⟨true, 3, 32, [.string ByteArray.empty, .int .i64 0, .int .i64 0], [.str ByteArray.empty, .int .i64 0, .int .i64 0], .flds [(0, 9), (1, 3), (2, 3)]⟩
def ty73 : TyI := ⟨true, 3, 32, [.string ByteArray.empty, .int .i64 0, .int .i64 0], [.str ByteArray.empty, .int .i64 0, .int .i64 0], .flds [(0, 9), (1, 3), (2, 3)]⟩
def ty78 : TyI := ⟨false, 1, 16, [.nilIface], [.err false], .iface⟩
def ty79 : TyI := ⟨false, 1, 16, [.nilIface], [.err false], .iface⟩
def ty84 : TyI := ⟨false, 1, 8, [.int .u64 0], [.int .u64 0], .int .u64⟩
def ty90 : TyI := ⟨false, 1, 8, [.int .i64 0], [.int .i64 0], .int .i64⟩
def ty97 : TyI := ⟨false, 1, 4, [.int .u32 0], [.int .u32 0], .int .u32⟩
def ty100 : TyI := ⟨false, 1, 8, [.int .u64 0], [.int .u64 0], .int .u64⟩
def ty104 : TyI := ⟨true, 3, 48, [.string ByteArray.empty, .string ByteArray.empty, .nilIface], [.str ByteArray.empty, .str ByteArray.empty, .err false], .flds [(0, 9), (1, 9), (2, 79)]⟩
def ty105 : TyI := ⟨true, 3, 48, [.string ByteArray.empty, .string ByteArray.empty, .nilIface], [.str ByteArray.empty, .str ByteArray.empty, .err false], .flds [(0, 9), (1, 9), (2, 79)]⟩
def ty114 : TyI := ⟨true, 1, 16, [.string ByteArray.empty], [.str ByteArray.empty], .flds [(0, 9)]⟩
def ty115 : TyI := ⟨true, 1, 16, [.string ByteArray.empty], [.str ByteArray.empty], .flds [(0, 9)]⟩
def ty128 : TyI := ⟨false, 1, 1, [.int .u8 0], [.int .u8 0], .int .u8⟩
def ty129 : TyI := ⟨false, 1, 1, [.int .u8 0], [.int .u8 0], .int .u8⟩
def ty131 : TyI := ⟨false, 1, 4, [.int .i32 0], [.int .i32 0], .int .i32⟩
def ty132 : TyI := ⟨false, 1, 4, [.int .i32 0], [.int .i32 0], .int .i32⟩
def tauL : List (Nat × TyI) := [(3, ty3), (4, ty4), (2, ty2), (5, ty5), (6, ty6), (7, ty7), (8, ty8), (9, ty9), (10, ty10), (11, ty11), (12, ty12), (13, ty13), (14, ty14), (20, ty20), (21, ty21), (22, ty22), (23, ty23), (24, ty24), (31, ty31), (33, ty33), (34, ty34), (39, ty39), (40, ty40), (50, ty50), (60, ty60), (61, ty61), (62, ty62), (64, ty64), (66, ty66), (70, ty70), (72, ty72), (73, ty73), (78, ty78), (79, ty79), (84, ty84), (90, ty90), (97, ty97), (100, ty100), (104, ty104), (105, ty105), (114, ty114), (115, ty115), (128, ty128), (129, ty129), (131, ty131), (132, ty132)]
def tau : Tys := nJ tauL
theorem tyOk3 : TyOk Tryd.prog 3 ty3 := .of _ _ rfl rfl rfl rfl rfl (.inr rfl) rfl rfl _ rfl rfl rfl
theorem tyOk4 : TyOk Tryd.prog 4 ty4 := .of _ _ rfl rfl rfl rfl rfl (.inr rfl) rfl rfl _ rfl rfl rfl
theorem tyOk2 : TyOk Tryd.prog 2 ty2 := .of _ _ rfl rfl rfl rfl rfl (.inr rfl) rfl rfl _ rfl rfl rfl
theorem tyOk5 : TyOk Tryd.prog 5 ty5 := .of _ _ rfl rfl rfl rfl rfl (.inr rfl) rfl rfl _ rfl rfl rfl
theorem tyOk6 : TyOk Tryd.prog 6 ty6 := .of _ _ rfl rfl rfl rfl rfl (.inr rfl) rfl rfl _ rfl rfl rfl
theorem tyOk7 : TyOk Tryd.prog 7 ty7 := .of _ _ rfl rfl rfl rfl rfl (.inr rfl) rfl rfl _ rfl rfl ⟨_, rfl, rfl⟩
theorem tyOk8 : TyOk Tryd.prog 8 ty8 := .of _ _ rfl rfl rfl rfl rfl (.inr rfl) rfl rfl _ rfl rfl ⟨_, rfl, rfl⟩
theorem tyOk9 : TyOk Tryd.prog 9 ty9 := .of _ _ rfl rfl rfl rfl rfl (.inr rfl) rfl rfl _ rfl rfl rfl
theorem tyOk10 : TyOk Tryd.prog 10 ty10 := .of _ _ rfl rfl rfl rfl rfl (.inr rfl) rfl rfl _ rfl rfl rfl
theorem tyOk11 : TyOk Tryd.prog 11 ty11 := .of _ _ rfl rfl rfl rfl rfl (.inr rfl) rfl rfl _ rfl rfl rfl
theorem tyOk12 : TyOk Tryd.prog 12 ty12 := .of _ _ rfl rfl rfl rfl rfl (.inr rfl) rfl rfl _ rfl rfl rfl
theorem tyOk13 : TyOk Tryd.prog 13 ty13 := .of _ _ rfl rfl rfl rfl rfl (.inr rfl) rfl rfl _ rfl rfl ⟨_, rfl, rfl⟩
theorem tyOk14 : TyOk Tryd.prog 14 ty14 := .of _ _ rfl rfl rfl rfl rfl (.inr rfl) rfl rfl _ rfl rfl ⟨_, rfl, rfl⟩
theorem tyOk20 : TyOk Tryd.prog 20 ty20 := .of _ _ rfl rfl rfl rfl rfl (.inr rfl) rfl rfl _ rfl rfl ⟨_, rfl⟩
theorem tyOk21 : TyOk Tryd.prog 21 ty21 := .of _ _ rfl rfl rfl rfl rfl (.inr rfl) rfl rfl _ rfl rfl rfl
theorem tyOk22 : TyOk Tryd.prog 22 ty22 := .of _ _ rfl rfl rfl rfl rfl (.inr rfl) rfl rfl _ rfl rfl rfl
theorem tyOk23 : TyOk Tryd.prog 23 ty23 := .of _ _ rfl rfl rfl rfl rfl (.inr rfl) rfl rfl _ rfl rfl ⟨_, rfl, rfl⟩
theorem tyOk24 : TyOk Tryd.prog 24 ty24 := .of _ _ rfl rfl rfl rfl rfl (.inr rfl) rfl rfl _ rfl rfl ⟨_, rfl, rfl⟩
theorem tyOk31 : TyOk Tryd.prog 31 ty31 := .of _ _ rfl rfl rfl rfl rfl (.inr rfl) rfl rfl _ rfl rfl rfl
theorem tyOk33 : TyOk Tryd.prog 33 ty33 := .of _ _ rfl rfl rfl rfl rfl (.inr rfl) rfl rfl _ rfl rfl ⟨_, rfl, rfl⟩
theorem tyOk34 : TyOk Tryd.prog 34 ty34 := .of _ _ rfl rfl rfl rfl rfl (.inr rfl) rfl rfl _ rfl rfl ⟨_, rfl, rfl⟩
theorem tyOk39 : TyOk Tryd.prog 39 ty39 := .of _ _ rfl rfl rfl rfl rfl (.inr rfl) rfl rfl _ rfl rfl ⟨_, rfl, rfl⟩
theorem tyOk40 : TyOk Tryd.prog 40 ty40 := .of _ _ rfl rfl rfl rfl rfl (.inr rfl) rfl rfl _ rfl rfl ⟨_, rfl, rfl⟩
theorem tyOk50 : TyOk Tryd.prog 50 ty50 := .of _ _ rfl rfl rfl rfl rfl (.inr rfl) rfl rfl _ rfl rfl rfl
theorem tyOk60 : TyOk Tryd.prog 60 ty60 := .of _ _ rfl rfl rfl rfl rfl (.inl rfl) rfl rfl _ rfl rfl ⟨_, _, rfl, rfl, fun _ => rfl⟩
theorem tyOk61 : TyOk Tryd.prog 61 ty61 := .of _ _ rfl rfl rfl rfl rfl (.inl rfl) rfl rfl _ rfl rfl ⟨_, rfl, rfl⟩
theorem tyOk62 : TyOk Tryd.prog 62 ty62 := .of _ _ rfl rfl rfl rfl rfl (.inl rfl) rfl rfl _ rfl rfl ⟨_, rfl, rfl⟩
theorem tyOk64 : TyOk Tryd.prog 64 ty64 := .of _ _ rfl rfl rfl rfl rfl (.inr rfl) rfl rfl _ rfl rfl rfl
theorem tyOk66 : TyOk Tryd.prog 66 ty66 := .of _ _ rfl rfl rfl rfl rfl (.inl rfl) rfl rfl _ rfl rfl ⟨_, rfl, rfl⟩
theorem tyOk70 : TyOk Tryd.prog 70 ty70 := .of _ _ rfl rfl rfl rfl rfl (.inr rfl) rfl rfl _ rfl rfl rfl
theorem tyOk72 : TyOk Tryd.prog 72 ty72 := .of _ _ rfl rfl rfl rfl rfl (.inr rfl) rfl rfl _ rfl rfl ⟨_, rfl, rfl⟩
theorem tyOk73 : TyOk Tryd.prog 73 ty73 := .of _ _ rfl rfl rfl rfl rfl (.inr rfl) rfl rfl _ rfl rfl ⟨_, rfl, rfl⟩
theorem tyOk78 : TyOk Tryd.prog 78 ty78 := .of _ _ rfl rfl rfl rfl rfl (.inr rfl) rfl rfl _ rfl rfl ⟨_, rfl⟩
theorem tyOk79 : TyOk Tryd.prog 79 ty79 := .of _ _ rfl rfl rfl rfl rfl (.inr rfl) rfl rfl _ rfl rfl ⟨_, rfl⟩
theorem tyOk84 : TyOk Tryd.prog 84 ty84 := .of _ _ rfl rfl rfl rfl rfl (.inr rfl) rfl rfl _ rfl rfl rfl
theorem tyOk90 : TyOk Tryd.prog 90 ty90 := .of _ _ rfl rfl rfl rfl rfl (.inr rfl) rfl rfl _ rfl rfl rfl
theorem tyOk97 : TyOk Tryd.prog 97 ty97 := .of _ _ rfl rfl rfl rfl rfl (.inr rfl) rfl rfl _ rfl rfl rfl
theorem tyOk100 : TyOk Tryd.prog 100 ty100 := .of _ _ rfl rfl rfl rfl rfl (.inr rfl) rfl rfl _ rfl rfl rfl
theorem tyOk104 : TyOk Tryd.prog 104 ty104 := .of _ _ rfl rfl rfl rfl rfl (.inr rfl) rfl rfl _ rfl rfl ⟨_, rfl, rfl⟩
theorem tyOk105 : TyOk Tryd.prog 105 ty105 := .of _ _ rfl rfl rfl rfl rfl (.inr rfl) rfl rfl _ rfl rfl ⟨_, rfl, rfl⟩
theorem tyOk114 : TyOk Tryd.prog 114 ty114 := .of _ _ rfl rfl rfl rfl rfl (.inr rfl) rfl rfl _ rfl rfl ⟨_, rfl, rfl⟩
theorem tyOk115 : TyOk Tryd.prog 115 ty115 := .of _ _ rfl rfl rfl rfl rfl (.inr rfl) rfl rfl _ rfl rfl ⟨_, rfl, rfl⟩
theorem tyOk128 : TyOk Tryd.prog 128 ty128 := .of _ _ rfl rfl rfl rfl rfl (.inr rfl) rfl rfl _ rfl rfl rfl
theorem tyOk129 : TyOk Tryd.prog 129 ty129 := .of _ _ rfl rfl rfl rfl rfl (.inr rfl) rfl rfl _ rfl rfl rfl
theorem tyOk131 : TyOk Tryd.prog 131 ty131 := .of _ _ rfl rfl rfl rfl rfl (.inr rfl) rfl rfl _ rfl rfl rfl
theorem tyOk132 : TyOk Tryd.prog 132 ty132 := .of _ _ rfl rfl rfl rfl rfl (.inr rfl) rfl rfl _ rfl rfl rfl
theorem jI : p4 Tryd.prog tau := iT ⟨tyOk3, tyOk4, tyOk2, tyOk5, tyOk6, tyOk7, tyOk8, tyOk9, tyOk10, tyOk11, tyOk12, tyOk13, tyOk14, tyOk20, tyOk21, tyOk22, tyOk23, tyOk24, tyOk31, tyOk33, tyOk34, tyOk39, tyOk40, tyOk50, tyOk60, tyOk61, tyOk62, tyOk64, tyOk66, tyOk70, tyOk72, tyOk73, tyOk78, tyOk79, tyOk84, tyOk90, tyOk97, tyOk100, tyOk104, tyOk105, tyOk114, tyOk115, tyOk128, tyOk129, tyOk131, tyOk132, trivial⟩
theorem nM : Tryd.prog.follows .mixedOrders = true := rfl
end Vg
namespace Go.Proofs
open Go.Shelf
def Tryd.lays169_ren : Go.Shelf.Ren := ⟨fun | 169 => 38 | n => n, fun | 70 => 63 | 9 => 9 | 0 => 0 | 72 => 66 | 37 => 64 | 127 => 82 | 3 => 3 | 5 => 5 | n => n, fun | n => n⟩
theorem Tryd.lays169 : Go.Proofs.Lays.n169 Tryd.prog Tryd.lays169_ren := {
  mixed := by kernel_rfl
  f169 := Tryd.func38.trans (congrArg some (by kernel_rfl))
  t0 := Tryd.underlying0
  a0 := Tryd.isAgg0
  z0 := Tryd.sizeOf0
  v0 := Tryd.zeroValue0
  t3 := Tryd.underlying3
  a3 := Tryd.isAgg3
  z3 := Tryd.sizeOf3
  v3 := Tryd.zeroValue3
  t9 := Tryd.underlying9
  a9 := Tryd.isAgg9
  z9 := Tryd.sizeOf9
  v9 := Tryd.zeroValue9
  t37 := Tryd.underlying64
  a37 := Tryd.isAgg64
  z37 := Tryd.sizeOf64
  v37 := Tryd.zeroValue64
  t70 := Tryd.underlying63
  a70 := Tryd.isAgg63
  z70 := Tryd.sizeOf63
  v70 := Tryd.zeroValue63
  t72 := Tryd.underlying66
  a72 := Tryd.isAgg66
  z72 := Tryd.sizeOf66
  v72 := Tryd.zeroValue66
  t127 := Tryd.underlying82
  a127 := Tryd.isAgg82
  z127 := Tryd.sizeOf82
  v127 := Tryd.zeroValue82 }
theorem Tryd.Builder_Extra_169 : Builder.Extra Tryd.prog Tryd.lays169_ren := {
  sizeBuilder := by kernel_rfl
  liesBuilder := by kernel_rfl
  t5 := Tryd.underlying5
  a5 := Tryd.isAgg5
  z5 := Tryd.sizeOf5
  v5 := Tryd.zeroValue5
  infoByte := by kernel_rfl
  cellsByte := by kernel_rfl
  sizeByte := by kernel_rfl
  neB5 := by decide }
def Tryd.laysM171_ren : Go.Shelf.Ren := ⟨fun | 171 => 58 | 243 => 64 | 246 => 75 | 283 => 81 | 284 => 82 | 285 => 83 | 286 => 84 | 129 => 88 | 317 => 87 | 318 => 89 | 319 => 90 | 320 => 91 | 337 => 92 | 338 => 93 | n => n, fun | 3 => 3 | 9 => 9 | 2 => 2 | 4 => 4 | 171 => 107 | 0 => 0 | 53 => 100 | 37 => 64 | 5 => 5 | 173 => 110 | 212 => 117 | 51 => 97 | 20 => 20 | 213 => 118 | 46 => 84 | 232 => 121 | 233 => 122 | n => n, fun | 17 => 3 | 18 => 4 | 19 => 5 | n => n⟩
theorem Tryd.laysM171 : Go.Proofs.LaysM.n171 Tryd.prog Tryd.laysM171_ren := {
  mixed := by kernel_rfl
  f129 := Tryd.func88.trans (congrArg some (by kernel_rfl))
  f171 := Tryd.func58.trans (congrArg some (by kernel_rfl))
  f243 := Tryd.func64.trans (congrArg some (by kernel_rfl))
  f246 := Tryd.func75.trans (congrArg some (by kernel_rfl))
  f283 := Tryd.func81.trans (congrArg some (by kernel_rfl))
  f284 := Tryd.func82.trans (congrArg some (by kernel_rfl))
  f285 := Tryd.func83.trans (congrArg some (by kernel_rfl))
  f286 := Tryd.func84.trans (congrArg some (by kernel_rfl))
  f317 := Tryd.func87.trans (congrArg some (by kernel_rfl))
  f318 := Tryd.func89.trans (congrArg some (by kernel_rfl))
  f319 := Tryd.func90.trans (congrArg some (by kernel_rfl))
  f320 := Tryd.func91.trans (congrArg some (by kernel_rfl))
  f337 := Tryd.func92.trans (congrArg some (by kernel_rfl))
  f338 := Tryd.func93.trans (congrArg some (by kernel_rfl))
  t0 := Tryd.underlying0
  a0 := Tryd.isAgg0
  z0 := Tryd.sizeOf0
  v0 := Tryd.zeroValue0
  t2 := Tryd.underlying2
  a2 := Tryd.isAgg2
  z2 := Tryd.sizeOf2
  v2 := Tryd.zeroValue2
  t3 := Tryd.underlying3
  a3 := Tryd.isAgg3
  z3 := Tryd.sizeOf3
  v3 := Tryd.zeroValue3
  t4 := Tryd.underlying4
  a4 := Tryd.isAgg4
  z4 := Tryd.sizeOf4
  v4 := Tryd.zeroValue4
  t5 := Tryd.underlying5
  a5 := Tryd.isAgg5
  z5 := Tryd.sizeOf5
  v5 := Tryd.zeroValue5
  t9 := Tryd.underlying9
  a9 := Tryd.isAgg9
  z9 := Tryd.sizeOf9
  v9 := Tryd.zeroValue9
  t20 := Tryd.underlying20
  a20 := Tryd.isAgg20
  z20 := Tryd.sizeOf20
  v20 := Tryd.zeroValue20
  t37 := Tryd.underlying64
  a37 := Tryd.isAgg64
  z37 := Tryd.sizeOf64
  v37 := Tryd.zeroValue64
  t46 := Tryd.underlying84
  a46 := Tryd.isAgg84
  z46 := Tryd.sizeOf84
  v46 := Tryd.zeroValue84
  t51 := Tryd.underlying97
  a51 := Tryd.isAgg97
  z51 := Tryd.sizeOf97
  v51 := Tryd.zeroValue97
  t53 := Tryd.underlying100
  a53 := Tryd.isAgg100
  z53 := Tryd.sizeOf100
  v53 := Tryd.zeroValue100
  t171 := Tryd.underlying107
  a171 := Tryd.isAgg107
  z171 := Tryd.sizeOf107
  v171 := Tryd.zeroValue107
  t173 := Tryd.underlying110
  a173 := Tryd.isAgg110
  z173 := Tryd.sizeOf110
  v173 := Tryd.zeroValue110
  t212 := Tryd.underlying117
  a212 := Tryd.isAgg117
  z212 := Tryd.sizeOf117
  v212 := Tryd.zeroValue117
  t213 := Tryd.underlying118
  a213 := Tryd.isAgg118
  z213 := Tryd.sizeOf118
  t232 := Tryd.underlying121
  a232 := Tryd.isAgg121
  z232 := Tryd.sizeOf121
  v232 := Tryd.zeroValue121
  t233 := Tryd.underlying122
  a233 := Tryd.isAgg122
  z233 := Tryd.sizeOf122
  v233 := Tryd.zeroValue122
  g17 := by kernel_rfl
  g18 := by kernel_rfl
  g19 := by kernel_rfl
  i0 := by kernel_rfl
  i2 := by kernel_rfl
  i3 := by kernel_rfl
  i4 := by kernel_rfl
  i5 := by kernel_rfl
  i9 := by kernel_rfl
  i20 := by kernel_rfl
  i37 := by kernel_rfl
  i46 := by kernel_rfl
  i51 := by kernel_rfl
  i53 := by kernel_rfl
  i171 := by kernel_rfl
  i173 := by kernel_rfl
  i212 := by kernel_rfl
  i232 := by kernel_rfl
  i233 := by kernel_rfl
  m17 := by kernel_rfl
  m18 := by kernel_rfl
  m19 := by kernel_rfl }
def Tryd.laysC172_ren : Go.Shelf.Ren := ⟨fun | 172 => 57 | 244 => 62 | 245 => 63 | 247 => 70 | 279 => 71 | 280 => 72 | 281 => 73 | 282 => 74 | 287 => 78 | 316 => 79 | 171 => 58 | 205 => 80 | 321 => 85 | 322 => 86 | 243 => 64 | 246 => 75 | 283 => 81 | 284 => 82 | 285 => 83 | 286 => 84 | 129 => 88 | 317 => 87 | 318 => 89 | 319 => 90 | 320 => 91 | 337 => 92 | 338 => 93 | n => n, fun | 9 => 9 | 3 => 3 | 75 => 79 | 76 => 80 | 4 => 4 | 5 => 5 | 167 => 90 | 37 => 64 | 0 => 0 | 85 => 91 | 2 => 2 | 168 => 93 | 53 => 100 | 175 => 101 | 46 => 84 | 210 => 105 | 127 => 82 | 145 => 115 | 143 => 113 | 21 => 21 | 171 => 107 | 173 => 110 | 212 => 117 | 51 => 97 | 20 => 20 | 213 => 118 | 232 => 121 | 233 => 122 | 80 => 44 | n => n, fun | 15 => 1 | 16 => 2 | 17 => 3 | 18 => 4 | 19 => 5 | n => n⟩
theorem Tryd.laysC172 : Go.Proofs.LaysC.n172 Tryd.prog Tryd.laysC172_ren := {
  mixed := by kernel_rfl
  f129 := Tryd.func88.trans (congrArg some (by kernel_rfl))
  f171 := Tryd.func58.trans (congrArg some (by kernel_rfl))
  f172 := Tryd.func57.trans (congrArg some (by kernel_rfl))
  f205 := Tryd.func80.trans (congrArg some (by kernel_rfl))
  f243 := Tryd.func64.trans (congrArg some (by kernel_rfl))
  f244 := Tryd.func62.trans (congrArg some (by kernel_rfl))
  f245 := Tryd.func63.trans (congrArg some (by kernel_rfl))
  f246 := Tryd.func75.trans (congrArg some (by kernel_rfl))
  f247 := Tryd.func70.trans (congrArg some (by kernel_rfl))
  f279 := Tryd.func71.trans (congrArg some (by kernel_rfl))
  f280 := Tryd.func72.trans (congrArg some (by kernel_rfl))
  f281 := Tryd.func73.trans (congrArg some (by kernel_rfl))
  f282 := Tryd.func74.trans (congrArg some (by kernel_rfl))
  f283 := Tryd.func81.trans (congrArg some (by kernel_rfl))
  f284 := Tryd.func82.trans (congrArg some (by kernel_rfl))
  f285 := Tryd.func83.trans (congrArg some (by kernel_rfl))
  f286 := Tryd.func84.trans (congrArg some (by kernel_rfl))
  f287 := Tryd.func78.trans (congrArg some (by kernel_rfl))
  f316 := Tryd.func79.trans (congrArg some (by kernel_rfl))
  f317 := Tryd.func87.trans (congrArg some (by kernel_rfl))
  f318 := Tryd.func89.trans (congrArg some (by kernel_rfl))
  f319 := Tryd.func90.trans (congrArg some (by kernel_rfl))
  f320 := Tryd.func91.trans (congrArg some (by kernel_rfl))
  f321 := Tryd.func85.trans (congrArg some (by kernel_rfl))
  f322 := Tryd.func86.trans (congrArg some (by kernel_rfl))
  f337 := Tryd.func92.trans (congrArg some (by kernel_rfl))
  f338 := Tryd.func93.trans (congrArg some (by kernel_rfl))
  t0 := Tryd.underlying0
  a0 := Tryd.isAgg0
  z0 := Tryd.sizeOf0
  v0 := Tryd.zeroValue0
  t2 := Tryd.underlying2
  a2 := Tryd.isAgg2
  z2 := Tryd.sizeOf2
  v2 := Tryd.zeroValue2
  t3 := Tryd.underlying3
  a3 := Tryd.isAgg3
  z3 := Tryd.sizeOf3
  v3 := Tryd.zeroValue3
  t4 := Tryd.underlying4
  a4 := Tryd.isAgg4
  z4 := Tryd.sizeOf4
  v4 := Tryd.zeroValue4
  t5 := Tryd.underlying5
  a5 := Tryd.isAgg5
  z5 := Tryd.sizeOf5
  v5 := Tryd.zeroValue5
  t9 := Tryd.underlying9
  a9 := Tryd.isAgg9
  z9 := Tryd.sizeOf9
  v9 := Tryd.zeroValue9
  t20 := Tryd.underlying20
  a20 := Tryd.isAgg20
  z20 := Tryd.sizeOf20
  v20 := Tryd.zeroValue20
  t21 := Tryd.underlying21
  a21 := Tryd.isAgg21
  z21 := Tryd.sizeOf21
  v21 := Tryd.zeroValue21
  t37 := Tryd.underlying64
  a37 := Tryd.isAgg64
  z37 := Tryd.sizeOf64
  v37 := Tryd.zeroValue64
  t46 := Tryd.underlying84
  a46 := Tryd.isAgg84
  z46 := Tryd.sizeOf84
  v46 := Tryd.zeroValue84
  t51 := Tryd.underlying97
  a51 := Tryd.isAgg97
  z51 := Tryd.sizeOf97
  v51 := Tryd.zeroValue97
  t53 := Tryd.underlying100
  a53 := Tryd.isAgg100
  z53 := Tryd.sizeOf100
  v53 := Tryd.zeroValue100
  t75 := Tryd.underlying79
  a75 := Tryd.isAgg79
  z75 := Tryd.sizeOf79
  v75 := Tryd.zeroValue79
  t76 := Tryd.underlying80
  a76 := Tryd.isAgg80
  z76 := Tryd.sizeOf80
  v76 := Tryd.zeroValue80
  t85 := Tryd.underlying91
  a85 := Tryd.isAgg91
  z85 := Tryd.sizeOf91
  v85 := Tryd.zeroValue91
  t127 := Tryd.underlying82
  a127 := Tryd.isAgg82
  z127 := Tryd.sizeOf82
  v127 := Tryd.zeroValue82
  t143 := Tryd.underlying113
  a143 := Tryd.isAgg113
  z143 := Tryd.sizeOf113
  v143 := Tryd.zeroValue113
  t145 := Tryd.underlying115
  a145 := Tryd.isAgg115
  z145 := Tryd.sizeOf115
  v145 := Tryd.zeroValue115
  t167 := Tryd.underlying90
  a167 := Tryd.isAgg90
  z167 := Tryd.sizeOf90
  v167 := Tryd.zeroValue90
  t168 := Tryd.underlying93
  a168 := Tryd.isAgg93
  z168 := Tryd.sizeOf93
  v168 := Tryd.zeroValue93
  t171 := Tryd.underlying107
  a171 := Tryd.isAgg107
  z171 := Tryd.sizeOf107
  v171 := Tryd.zeroValue107
  t173 := Tryd.underlying110
  a173 := Tryd.isAgg110
  z173 := Tryd.sizeOf110
  v173 := Tryd.zeroValue110
  t175 := Tryd.underlying101
  a175 := Tryd.isAgg101
  z175 := Tryd.sizeOf101
  v175 := Tryd.zeroValue101
  t210 := Tryd.underlying105
  a210 := Tryd.isAgg105
  z210 := Tryd.sizeOf105
  v210 := Tryd.zeroValue105
  t212 := Tryd.underlying117
  a212 := Tryd.isAgg117
  z212 := Tryd.sizeOf117
  v212 := Tryd.zeroValue117
  t213 := Tryd.underlying118
  a213 := Tryd.isAgg118
  z213 := Tryd.sizeOf118
  t232 := Tryd.underlying121
  a232 := Tryd.isAgg121
  z232 := Tryd.sizeOf121
  v232 := Tryd.zeroValue121
  t233 := Tryd.underlying122
  a233 := Tryd.isAgg122
  z233 := Tryd.sizeOf122
  v233 := Tryd.zeroValue122
  g15 := by kernel_rfl
  g16 := by kernel_rfl
  g17 := by kernel_rfl
  g18 := by kernel_rfl
  g19 := by kernel_rfl
  t80 := Tryd.underlying44
  a80 := Tryd.isAgg44
  z80 := Tryd.sizeOf44
  v80 := Tryd.zeroValue44
  i0 := by kernel_rfl
  i2 := by kernel_rfl
  i3 := by kernel_rfl
  i4 := by kernel_rfl
  i5 := by kernel_rfl
  i9 := by kernel_rfl
  i20 := by kernel_rfl
  i21 := by kernel_rfl
  i37 := by kernel_rfl
  i46 := by kernel_rfl
  i51 := by kernel_rfl
  i53 := by kernel_rfl
  i75 := by kernel_rfl
  i76 := by kernel_rfl
  i80 := by kernel_rfl
  i85 := by kernel_rfl
  i127 := by kernel_rfl
  i143 := by kernel_rfl
  i145 := by kernel_rfl
  i167 := by kernel_rfl
  i168 := by kernel_rfl
  i171 := by kernel_rfl
  i173 := by kernel_rfl
  i175 := by kernel_rfl
  i210 := by kernel_rfl
  i212 := by kernel_rfl
  i232 := by kernel_rfl
  i233 := by kernel_rfl
  m15 := by kernel_rfl
  m16 := by kernel_rfl
  m17 := by kernel_rfl
  m18 := by kernel_rfl
  m19 := by kernel_rfl
  c0 := by kernel_rfl
  c2 := by kernel_rfl
  c3 := by kernel_rfl
  c4 := by kernel_rfl
  c5 := by kernel_rfl
  c9 := by kernel_rfl
  c20 := by kernel_rfl
  c21 := by kernel_rfl
  c37 := by kernel_rfl
  c46 := by kernel_rfl
  c51 := by kernel_rfl
  c53 := by kernel_rfl
  c75 := by kernel_rfl
  c76 := by kernel_rfl
  c80 := by kernel_rfl
  c85 := by kernel_rfl
  c127 := by kernel_rfl
  c143 := by kernel_rfl
  c145 := by kernel_rfl
  c167 := by kernel_rfl
  c168 := by kernel_rfl
  c171 := by kernel_rfl
  c173 := by kernel_rfl
  c175 := by kernel_rfl
  c210 := by kernel_rfl
  c212 := by kernel_rfl
  c213 := by kernel_rfl
  c232 := by kernel_rfl
  c233 := by kernel_rfl }
def Tryd.lays145_ren : Go.Shelf.Ren := ⟨fun | 145 => 45 | 220 => 56 | 219 => 61 | 217 => 66 | 225 => 67 | 224 => 68 | 267 => 69 | 266 => 76 | 314 => 77 | n => n, fun | 9 => 9 | 4 => 4 | 59 => 74 | 3 => 3 | 5 => 5 | 46 => 84 | 146 => 98 | 51 => 97 | n => n, fun | 1 => 0 | n => n⟩
theorem Tryd.lays145 : Go.Proofs.Lays.n145 Tryd.prog Tryd.lays145_ren := {
  mixed := by kernel_rfl
  f145 := Tryd.func45.trans (congrArg some (by kernel_rfl))
  f217 := Tryd.func66.trans (congrArg some (by kernel_rfl))
  f219 := Tryd.func61.trans (congrArg some (by kernel_rfl))
  f220 := Tryd.func56.trans (congrArg some (by kernel_rfl))
  f224 := Tryd.func68.trans (congrArg some (by kernel_rfl))
  f225 := Tryd.func67.trans (congrArg some (by kernel_rfl))
  f266 := Tryd.func76.trans (congrArg some (by kernel_rfl))
  f267 := Tryd.func69.trans (congrArg some (by kernel_rfl))
  f314 := Tryd.func77.trans (congrArg some (by kernel_rfl))
  t3 := Tryd.underlying3
  a3 := Tryd.isAgg3
  z3 := Tryd.sizeOf3
  v3 := Tryd.zeroValue3
  t4 := Tryd.underlying4
  a4 := Tryd.isAgg4
  z4 := Tryd.sizeOf4
  v4 := Tryd.zeroValue4
  t5 := Tryd.underlying5
  a5 := Tryd.isAgg5
  z5 := Tryd.sizeOf5
  v5 := Tryd.zeroValue5
  t9 := Tryd.underlying9
  a9 := Tryd.isAgg9
  z9 := Tryd.sizeOf9
  v9 := Tryd.zeroValue9
  t46 := Tryd.underlying84
  a46 := Tryd.isAgg84
  z46 := Tryd.sizeOf84
  v46 := Tryd.zeroValue84
  t51 := Tryd.underlying97
  a51 := Tryd.isAgg97
  z51 := Tryd.sizeOf97
  v51 := Tryd.zeroValue97
  t59 := Tryd.underlying74
  a59 := Tryd.isAgg74
  z59 := Tryd.sizeOf74
  v59 := Tryd.zeroValue74
  t146 := Tryd.underlying98
  a146 := Tryd.isAgg98
  z146 := Tryd.sizeOf98
  v146 := Tryd.zeroValue98
  g1 := by kernel_rfl }
end Go.Proofs
namespace Vg
open Go Go.Proofs
set_option maxRecDepth 100000
set_option maxHeartbeats 40000000
theorem rX {a b : Prop} (hb : b) (ha : a) : a ∧ b := ⟨ha, hb⟩
theorem p3 {P : Program} {τ : Tys} {S : AState} {blk : Nat → Option Blk} {dst : Option Nat} {g : Nat} {Ts Ts' : List Nat} {vs vs' vs'' : List AV} {K : AV → Prop} {K' K'' : AState → Prop} {Z : Prop} (h : wA P τ blk g Ts vs K) :
    wA P τ blk g Ts vs K ∨ iC P τ S dst g Ts' vs' K' ∨ kD P S dst g vs'' K'' ∨ Z := .inl h
theorem fcI {P : Program} {τ : Tys} {S : AState} {blk : Nat → Option Blk} {dst : Option Nat} {g : Nat} {Ts Ts' : List Nat} {vs vs' vs'' : List AV} {K : AV → Prop} {K' K'' : AState → Prop} {Z : Prop} (h : iC P τ S dst g Ts' vs' K') :
    wA P τ blk g Ts vs K ∨ iC P τ S dst g Ts' vs' K' ∨ kD P S dst g vs'' K'' ∨ Z := .inr (.inl h)
theorem noTF {b : Bool} {p : Prop} (h : b = false) (h2 : b = true) : p := Bool.noConfusion (h.symm.trans h2)
theorem d6 {P : Program} {τ : Tys} {S : AState} {blk : Nat → Option Blk} {dst : Option Nat} {g : Nat} {Ts Ts' : List Nat} {vs vs' vs'' : List AV} {K : AV → Prop} {K' K'' : AState → Prop} {Z : Prop} (h : kD P S dst g vs'' K'') :
    wA P τ blk g Ts vs K ∨ iC P τ S dst g Ts' vs' K' ∨ kD P S dst g vs'' K'' ∨ Z := .inr (.inr (.inl h))
theorem g4 {n : Int} (h1 : -9223372036854775808 ≤ n) (h2 : n < 9223372036854775808) : IntKind.i64.wrap n = n := by
  simp only [IntKind.wrap]
  have e1 : (2 : Int) ^ IntKind.i64.bits = 18446744073709551616 := rfl
  have e2 : (2 : Int) ^ (IntKind.i64.bits - 1) = 9223372036854775808 := rfl
  have e3 : IntKind.i64.signed = true := rfl
  simp only [e1, e2, e3]
  have h3 := Int.emod_emod_of_dvd n (Int.dvd_refl 18446744073709551616)
  split <;> rename_i hc <;> simp at hc <;> omega
theorem uD {k m : Nat} (h : (k : Int) < m) (hm : m ≤ maxLen) : IntKind.i64.wrap ((k : Int) + 1) = ((k + 1 : Nat) : Int) := by
  have : maxLen = 9223372036854775807 := rfl
  rw [g4] <;> omega
theorem sp_T {A B : Prop} (h : A) : (true = true → A) ∧ (true = false → B) := ⟨fun _ => h, fun h => by cases h⟩
theorem sp_F {A B : Prop} (h : B) : (false = true → A) ∧ (false = false → B) := ⟨fun h => (by cases h), fun _ => h⟩
theorem sp_T' {A B : Prop} (h : A) : (true = false → B) ∧ (true = true → A) := ⟨fun h => (by cases h), fun _ => h⟩
theorem sp_F' {A B : Prop} (h : B) : (false = false → B) ∧ (false = true → A) := ⟨fun _ => h, fun h => by cases h⟩
theorem sp_d {p A B : Prop} [Decidable p] (h1 : p → A) (h2 : ¬ p → B) : (decide p = true → A) ∧ (decide p = false → B) := ⟨fun h => h1 (of_decide_eq_true h), fun h => h2 (of_decide_eq_false h)⟩
theorem sp_d' {p A B : Prop} [Decidable p] (h1 : ¬ p → A) (h2 : p → B) : (decide p = false → A) ∧ (decide p = true → B) := ⟨fun h => h1 (of_decide_eq_false h), fun h => h2 (of_decide_eq_true h)⟩
theorem sp_b {b : Bool} {A B : Prop} (h1 : b = true → A) (h2 : b = false → B) : (b = true → A) ∧ (b = false → B) := ⟨h1, h2⟩
theorem sp_b' {b : Bool} {A B : Prop} (h1 : b = false → A) (h2 : b = true → B) : (b = false → A) ∧ (b = true → B) := ⟨h1, h2⟩
theorem sp_nb {b : Bool} {A B : Prop} (h1 : b = false → A) (h2 : b = true → B) : ((!b) = true → A) ∧ ((!b) = false → B) := ⟨fun h => h1 (by simpa using h), fun h => h2 (by simpa using h)⟩
theorem sp_nb' {b : Bool} {A B : Prop} (h1 : b = true → A) (h2 : b = false → B) : ((!b) = false → A) ∧ ((!b) = true → B) := ⟨fun h => h1 (by simpa using h), fun h => h2 (by simpa using h)⟩
theorem bnd2 {a b c d : Int} (h1 : a ≤ b) (h2 : c < d) : a ≤ b ∧ c < d := ⟨h1, h2⟩
theorem bnd2' {a b c d : Int} (h1 : a ≤ b) (h2 : c ≤ d) : a ≤ b ∧ c ≤ d := ⟨h1, h2⟩
theorem bndN {a b c d : Nat} (h1 : a ≤ b) (h2 : c ≤ d) : a ≤ b ∧ c ≤ d := ⟨h1, h2⟩
theorem j0 {σ : List (Nat × Option Nat)} {d' d : Dat} (h : d' = d) : wk σ (.dat d') (.dat d) := h
theorem g0 {σ : List (Nat × Option Nat)} {d' d : Dat} (h : d' = d) : wkC σ (.dat d') (.dat d) := h
theorem vX {α : Type} {f : α → Bool} {l : List α} {k : Nat} (d : α) (h : (k : Int) < l.length) : (l.take (k + 1)).all f = ((l.take k).all f && f (l.getD k d)) := by
  have h' : k < l.length := by omega
  rw [List.take_succ_eq_append_getElem h', List.all_append]
  simp [List.getD_eq_getElem?_getD, h']
theorem sp_e {a b : Int} {A B : Prop} (h1 : a = b → A) (h2 : ¬ a = b → B) : ((a == b) = true → A) ∧ ((a == b) = false → B) := ⟨fun h => h1 (by simpa using h), fun h => h2 (by simpa using h)⟩
theorem sp_e' {a b : Int} {A B : Prop} (h1 : ¬ a = b → A) (h2 : a = b → B) : ((a == b) = false → A) ∧ ((a == b) = true → B) := ⟨fun h => h1 (by simpa using h), fun h => h2 (by simpa using h)⟩
theorem sp_n {a b : Int} {A B : Prop} (h1 : ¬ a = b → A) (h2 : a = b → B) : ((a != b) = true → A) ∧ ((a != b) = false → B) := ⟨fun h => h1 (by simpa using h), fun h => h2 (by simpa using h)⟩
theorem sp_n' {a b : Int} {A B : Prop} (h1 : a = b → A) (h2 : ¬ a = b → B) : ((a != b) = false → A) ∧ ((a != b) = true → B) := ⟨fun h => h1 (by simpa using h), fun h => h2 (by simpa using h)⟩
theorem sp_eF {a b : Int} {A B : Prop} (hn : ¬ a = b) (h2 : B) : ((a == b) = true → A) ∧ ((a == b) = false → B) := ⟨fun h => (hn (by simpa using h)).elim, fun _ => h2⟩
theorem sp_eT {a : Int} {A B : Prop} (h1 : A) : ((a == a) = true → A) ∧ ((a == a) = false → B) := ⟨fun _ => h1, fun h => (by simp at h)⟩
theorem sp_dF {p A B : Prop} [Decidable p] (hn : ¬ p) (h2 : B) : (decide p = true → A) ∧ (decide p = false → B) := ⟨fun h => (hn (of_decide_eq_true h)).elim, fun _ => h2⟩
theorem sp_dT {p A B : Prop} [Decidable p] (hn : p) (h2 : A) : (decide p = true → A) ∧ (decide p = false → B) := ⟨fun _ => h2, fun h => (of_decide_eq_false h hn).elim⟩
/-! ### steps that the walks share: what a step leaves is handed on as it is found (the default argument finds it) -/
structure Bx (R : Prop) : Prop where
  u : R
structure SplS (p q A B : Prop) : Prop where
  l : p → A
  r : q → B
section
variable {A B : Prop}
theorem ss_d {p : Prop} [Decidable p] (h : SplS p (¬ p) A B) : (decide p = true → A) ∧ (decide p = false → B) := sp_d h.l h.r
theorem ss_d' {p : Prop} [Decidable p] (h : SplS (¬ p) p A B) : (decide p = false → A) ∧ (decide p = true → B) := sp_d' h.l h.r
theorem ss_e {a b : Int} (h : SplS (a = b) (¬ a = b) A B) : ((a == b) = true → A) ∧ ((a == b) = false → B) := sp_e h.l h.r
theorem ss_e' {a b : Int} (h : SplS (¬ a = b) (a = b) A B) : ((a == b) = false → A) ∧ ((a == b) = true → B) := sp_e' h.l h.r
theorem ss_n {a b : Int} (h : SplS (¬ a = b) (a = b) A B) : ((a != b) = true → A) ∧ ((a != b) = false → B) := sp_n h.l h.r
theorem ss_n' {a b : Int} (h : SplS (a = b) (¬ a = b) A B) : ((a != b) = false → A) ∧ ((a != b) = true → B) := sp_n' h.l h.r
theorem ss_nb {b : Bool} (h : SplS (b = false) (b = true) A B) : ((!b) = true → A) ∧ ((!b) = false → B) := sp_nb h.l h.r
theorem ss_nb' {b : Bool} (h : SplS (b = true) (b = false) A B) : ((!b) = false → A) ∧ ((!b) = true → B) := sp_nb' h.l h.r
theorem ss_b {b : Bool} (h : SplS (b = true) (b = false) A B) : (b = true → A) ∧ (b = false → B) := sp_b h.l h.r
theorem ss_b' {b : Bool} (h : SplS (b = false) (b = true) A B) : (b = false → A) ∧ (b = true → B) := sp_b' h.l h.r
end
theorem g5 {A B G : Prop} (a : Bx A) (b : Bx B) (f : Bx A → Bx B → G := by
    intro a b
    first
    | (with_reducible first | exact bnd2 a.u b.u | exact bnd2' a.u b.u | exact bndN a.u b.u)
    | ((with_reducible refine rX ?_ b.u); (conv => whnf); exact a.u)
    | (with_reducible exact rX a.u b.u)) : G := f a b
theorem zV {X : AV} {Y : List Blk} {Q : AV → List Blk → Prop} (h : Q X Y) : ∀ res B, (res = X ∧ B = Y) → Q res B := fun _ _ ⟨a, b⟩ => by subst a b; exact h
theorem o6 {G : Prop} (x : G := by
    first
    | exact Bool.noConfusion (Eq.trans (Eq.symm h) (show _ = true by with_reducible assumption))
    | exact Bool.noConfusion (Eq.trans (Eq.symm (show _ = false by with_reducible assumption)) h)
    | ((fail_if_success (have _x : @Eq Bool _ _ := h)); contradiction)) : G := x
theorem g7 {G : Prop} (x : G := by
    first
    | exact Bool.noConfusion (Eq.trans (Eq.symm h) (show _ = true by with_reducible assumption))
    | exact Bool.noConfusion (Eq.trans (Eq.symm (show _ = false by with_reducible assumption)) h)
    | ((fail_if_success (have _x : @Eq Bool _ _ := h)); with_reducible contradiction)) : G := x
theorem oV {f : FuncId} {fn : Func} {c : Code} {args : List AV} {X : AV} {R : Prop} (hf : Tryd.prog.funcs[f]? = some fn) (k : Bx R) (h1 : (fn.name == "runtime.NumGoroutine") = false := by exact rfl)
    (hb : fn.body = some c := by exact rfl) (hn : Nat.ble args.length fn.ntmps = true := by exact rfl)
    (h : Bx R → a8 Tryd.prog tau c ⟨fn.ntmps, fun t => args.getD t .any, fun _ => none⟩ (vJ tau fn false fun res B' => iA B' X res) := by
      intro k
      (conv => whnf)
      exact k.u) : CallsV Tryd.prog f args X := CallsV.of_awp jI nM hf h1 hb hn (h k)
theorem oF {f : FuncId} {fn : Func} {c : Code} {args : List AV} {fr : Bool} {Q : AV → List Blk → Prop} {R : Prop} (hf : Tryd.prog.funcs[f]? = some fn) (k : Bx R) (h1 : (fn.name == "runtime.NumGoroutine") = false := by exact rfl)
    (hb : fn.body = some c := by exact rfl) (hn : Nat.ble args.length fn.ntmps = true := by exact rfl)
    (h : Bx R → a8 Tryd.prog tau c ⟨fn.ntmps, fun t => args.getD t .any, fun _ => none⟩ (vJ tau fn fr Q) := by
      intro k
      (conv => whnf)
      exact k.u) : CallsF Tryd.prog f args fr Q := CallsF.of_awp jI nM hf h1 hb hn (h k)
theorem oG {f : FuncId} {fn : Func} {c : Code} {args : List AV} {Bg : List Blk} {m : Nat} {Q : AV → List Blk → Prop} {R : Prop} (hf : Tryd.prog.funcs[f]? = some fn) (k : Bx R) (h1 : (fn.name == "runtime.NumGoroutine") = false := by exact rfl)
    (hb : fn.body = some c := by exact rfl) (hn : (Nat.ble args.length fn.ntmps && Nat.ble m Bg.length) = true := by exact rfl)
    (h : Bx R → a8 Tryd.prog tau c ⟨fn.ntmps, fun t => (args.getD t .any).ren Bg.length 900000, nD Bg⟩ (gpost tau fn m Q) := by
      intro k
      (conv => whnf)
      exact k.u) : CallsG Tryd.prog f args Bg m Q := CallsG.of_awp jI nM hf h1 hb hn (h k)
abbrev KT := AX → AState → Prop
theorem f4 {R G : Prop} (k : Bx R) (f : Bx R → G := by
    intro k
    first | ((with_reducible first | refine Alt.l ?_ | refine sp_T ?_ | refine sp_F ?_ | refine sp_T' ?_ | refine sp_F' ?_); (conv => whnf); exact k.u) | ((with_reducible refine sp_dF ?_ ?_); decide; (conv => whnf); exact k.u) | ((with_reducible refine sp_dT ?_ ?_); decide; (conv => whnf); exact k.u) | ((with_reducible first | refine ss_d ?_ | refine ss_d' ?_); exact k.u) | ((with_reducible refine sp_eF ?_ ?_); decide; (conv => whnf); exact k.u) | ((with_reducible refine sp_eT ?_); (conv => whnf); exact k.u) | ((with_reducible first | refine ss_e ?_ | refine ss_e' ?_ | refine ss_n ?_ | refine ss_n' ?_ | refine ss_nb ?_ | refine ss_nb' ?_ | refine ss_b ?_ | refine ss_b' ?_); exact k.u) | (refine ⟨(rfl : d8 _ = true), rfl, ?_⟩; first | ((conv => whnf); exact k.u) | exact k.u) | ((with_reducible show t6 _ _ _ _ _ _); (conv => whnf); exact k.u)) : G := f k
theorem g6 {R G : Prop} (k : Bx R) (f : Bx R → G := by
    intro k
    (conv => whnf)
    exact k.u) : G := f k
theorem ctA {G : Prop} (x : G := by contradiction) : G := x
theorem ctX {G : Prop} (x : G := by with_reducible contradiction) : G := x
theorem ctR {G : Prop} (x : G := by
    first | exact Bool.noConfusion (Eq.trans (Eq.symm h) (show _ = true by with_reducible assumption)) | exact Bool.noConfusion (Eq.trans (Eq.symm (show _ = false by with_reducible assumption)) h)) : G := x
def inP (n lo hi : Int) : Bool := decide (lo ≤ n) && decide (n ≤ hi)
def regP (n : Int) : Bool := inP n 0 3
def wordP (w a : Int) : Bool := inP w 1 16 && inP a 0 (2 ^ w.toNat - 1)
theorem shl1 {w : Int} (h : inP w 1 16 = true) : IntKind.i64.wrap (1 * 2 ^ min w.toNat IntKind.i64.bits) = 2 ^ w.toNat := by
  have h' : w.toNat < 17 := by simp [inP] at h; omega
  revert h'
  generalize w.toNat = k
  intro h
  have : ∀ k < 17, IntKind.i64.wrap (1 * 2 ^ min k IntKind.i64.bits) = 2 ^ k := by decide
  exact this k h
theorem uw {w : Int} (h : inP w 1 16 = true) : IntKind.u64.wrap w = w := by
  simp [inP] at h
  have h' : w.toNat < 17 := by omega
  have e : w = (w.toNat : Int) := by omega
  rw [e]
  revert h'
  generalize w.toNat = k
  intro h
  have : ∀ k < 17, IntKind.u64.wrap ((k : Nat) : Int) = k := by decide
  exact this k h
theorem top1 {w : Int} (h : inP w 1 16 = true) : IntKind.i64.wrap (2 ^ w.toNat - 1) = 2 ^ w.toNat - 1 := by
  have h' : w.toNat < 17 := by simp [inP] at h; omega
  revert h'
  generalize w.toNat = k
  intro h
  have : ∀ k < 17, IntKind.i64.wrap ((2 : Int) ^ k - 1) = 2 ^ k - 1 := by decide
  exact this k h
theorem vC (n lo hi : Int) : CallsV Tryd.prog 24 [.dat (.i n), .dat (.i lo), .dat (.i hi)] (.dat (.bool (inP n lo hi))) := by
  refine oV Tryd.func24 ⟨?_⟩
  repeat' (first | ((with_reducible refine fun (K1 : KT) hK => ?_); refine g6 ⟨?_⟩) | ((with_reducible show K1 _ _); subst hK; conv => whnf) | (with_reducible exact rfl) | refine f4 ⟨?_⟩ | ((with_reducible refine SplS.mk (fun h => ?_) (fun h => ?_)) <;> first | exact ctA | (subst h; conv => whnf) | (conv => whnf)) | ((with_reducible refine SplS.mk (fun h => ?_) (fun h => ?_)) <;> first | exact ctA | (conv => whnf)) | (intro h; conv => whnf))
  all_goals repeat clear hK K1
  all_goals simp [inP, *]
theorem aZ (w a : Int) : CallsV Tryd.prog 43 [.dat (.i w), .dat (.i a)] (.dat (.bool (wordP w a))) := by
  refine oV Tryd.func43 ⟨?_⟩
  repeat' (first | ((with_reducible refine fun (K1 : KT) hK => ?_); refine g6 ⟨?_⟩) | ((with_reducible show K1 _ _); subst hK; conv => whnf) | (with_reducible exact rfl) | refine f4 ⟨?_⟩ | ((with_reducible refine SplS.mk (fun h => ?_) (fun h => ?_)) <;> first | exact ctA | (subst h; conv => whnf) | (conv => whnf)) | ((with_reducible refine SplS.mk (fun h => ?_) (fun h => ?_)) <;> first | exact ctA | (conv => whnf)) | refine g5 ⟨?_⟩ ⟨?_⟩ | ((with_reducible first | refine p3 (g := 24) ?_ | show Exists _); refine ⟨_, vC .., rfl, ?_⟩; rotate_right; conv => whnf) | (intro h; conv => whnf))
  all_goals repeat clear hK K1
  · have h1 := h
    simp only [wordP, h1, shl1 h1, top1 h1, Bool.true_and]
  · have h1 := h
    simp [inP] at h1; omega
  · simp only [wordP, h, Bool.false_and]
theorem tU (w : Int) : CallsV Tryd.prog 49 [.dat (.i w)] (.dat (.bool (inP w 1 16))) := by
  refine oV Tryd.func49 ⟨?_⟩
  repeat' (first | ((with_reducible refine fun (K1 : KT) hK => ?_); refine g6 ⟨?_⟩) | ((with_reducible show K1 _ _); subst hK; conv => whnf) | (with_reducible exact rfl) | refine f4 ⟨?_⟩ | ((with_reducible refine SplS.mk (fun h => ?_) (fun h => ?_)) <;> first | exact ctA | (subst h; conv => whnf) | (conv => whnf)) | ((with_reducible refine SplS.mk (fun h => ?_) (fun h => ?_)) <;> first | exact ctA | (conv => whnf)) | (intro h; conv => whnf))
  all_goals repeat clear hK K1
  all_goals first | rfl | assumption | exact Bool.noConfusion (h.symm.trans hp) | (simp_all [inP]; done) | grind [inP] | (simp_all [inP]; omega)
theorem qbc (w a : Int) : CallsV Tryd.prog 51 [.dat (.i w), .dat (.i a)] (.dat (.bool (wordP w a))) := by
  refine oV Tryd.func51 ⟨?_⟩
  repeat' (first | ((with_reducible refine fun (K1 : KT) hK => ?_); refine g6 ⟨?_⟩) | ((with_reducible show K1 _ _); subst hK; conv => whnf) | (with_reducible exact rfl) | refine f4 ⟨?_⟩ | ((with_reducible refine SplS.mk (fun h => ?_) (fun h => ?_)) <;> first | exact ctA | (subst h; conv => whnf) | (conv => whnf)) | ((with_reducible refine SplS.mk (fun h => ?_) (fun h => ?_)) <;> first | exact ctA | (conv => whnf)) | refine g5 ⟨?_⟩ ⟨?_⟩ | ((with_reducible first | refine p3 (g := 49) ?_ | show Exists _); refine ⟨_, tU .., rfl, ?_⟩; rotate_right; conv => whnf) | (intro h; conv => whnf))
  all_goals repeat clear hK K1
  · rename_i h1
    have e := uw h1
    have e2 := shl1 h1
    have ha : 0 ≤ a := h
    rw [e, e2]
    simp only [wordP, h1, Bool.true_and]
    simp only [inP, decide_eq_true ha, Bool.true_and]
    exact congrArg Dat.bool (decide_eq_decide.2 omG)
  · rename_i h1
    rw [uw h1]
    simp [inP] at h1; omega
  · have ha : ¬ 0 ≤ a := h
    simp [wordP, inP, ha]
  · simp only [wordP, h, Bool.false_and]
def insP (i : V.Ins) (w size : Int) : Bool :=
  if i.op = 1 then regP i.a && wordP w i.b && decide (i.c = 0)
  else if i.op = 2 ∨ i.op = 7 ∨ i.op = 8 then regP i.a && regP i.b && decide (i.c = 0)
  else if i.op = 3 then regP i.a && regP i.b && inP i.c 3 16
  else if i.op = 4 ∨ i.op = 5 ∨ i.op = 6 ∨ i.op = 13 then regP i.a && decide (i.b = 0) && decide (i.c = 0)
  else if i.op = 9 ∨ i.op = 11 then decide (i.a = 0) && inP i.b 0 size && decide (i.c = 0)
  else if i.op = 10 then regP i.a && inP i.b 0 size && decide (i.c = 0)
  else if i.op = 12 ∨ i.op = 14 then decide (i.a = 0) && decide (i.b = 0) && decide (i.c = 0)
  else false
def aE (p : V.Prog) : Bool :=
  inP p.w 2 8 && inP p.mem 1 6 && wordP p.w p.mem && inP p.inn 0 3 && inP p.code.length 1 40 && p.code.all fun i => insP i p.w p.code.length
theorem sig_fin {κ : K} {l l' : List κ.T} (h : l = l') : (⟨κ, l⟩ : (κ : K) × List κ.T) = ⟨κ, l'⟩ := by rw [h]
theorem cQ {α : Type} {a b : List α} {k : Nat} (d : α) (h : (k : Int) < a.length) (hl : a.length = b.length) (hk : a.take k = b.take k) (he : a.getD k d = b.getD k d) : a.take (k + 1) = b.take (k + 1) := by
  have h1 : k < a.length := by omega
  have h2 : k < b.length := by omega
  rw [List.take_succ_eq_append_getElem h1, List.take_succ_eq_append_getElem h2, hk]
  simp only [List.getD_eq_getElem?_getD, List.getElem?_eq_getElem h1, List.getElem?_eq_getElem h2, Option.getD_some] at he
  rw [he]
theorem lS {α : Type} {a b : List α} {k : Nat} {d : α} (he : ¬ a.getD k d = b.getD k d) : ¬ a = b := fun e => he (by rw [e])
theorem jY {α : Type} {a b : List α} {k : Nat} (h : ¬ (k : Int) < a.length) (hl : a.length = b.length) (hk : a.take k = b.take k) : a = b := by
  rwa [List.take_of_length_le omG, List.take_of_length_le omG] at hk
def x9 (w : Int) (f : V.Fact) : Bool :=
  if regP f.a = false then false
  else if f.kind = 1 then decide (f.b = 0) && wordP w f.n
  else if f.kind = 2 then regP f.b && decide (f.a < f.b) && decide (f.n = 0)
  else if f.kind = 3 then decide (f.b = 0) && wordP w f.n && decide (f.n < 2 ^ w.toNat - 1)
  else if f.kind = 4 then inP f.b 0 (w - 1) && inP f.n 0 1
  else if f.kind = 5 then regP f.b && decide (f.a < f.b) && wordP w f.n
  else if f.kind = 6 then regP f.b && !decide (f.a = f.b) && decide (f.n = 0)
  else false
theorem progP_r {p : V.Prog} (h : aE p = true) : 2 ≤ p.w ∧ p.w ≤ 8 := by
  simp [aE, inP] at h
  omega
end Vg
