/- The table of types of the program. No condition. -/
import Derived.Test.YtfhkodimclmcdaaGreatDoorTy
import Derived.Test.YtfhkodimclmcdaaGreatDoorProg
import Derived.Shelf.Small.Strs
import Derived.Shelf.SlSortCmp.NoneTotal
namespace Vg
open Go Go.Proofs
set_option maxRecDepth 100000
set_option maxHeartbeats 40000000
def ty3 : TyI := ⟨false,1,8,[.int .i64 0],[.int .i64 0],.int .i64⟩
def ty4 : TyI := ⟨false,1,1,[.bool false],[.bool false],.bool⟩
def ty54 : TyI := ⟨true,4,32,[.int .i64 0,.int .i64 0,.int .i64 0,.int .i64 0],[.int .i64 0,.int .i64 0,.int .i64 0,.int .i64 0],.flds [(0,3),(1,3),(2,3),(3,3)]⟩
def ty25 : TyI := ⟨true,4,48,[.int .i64 0,.int .i64 0,.int .i64 0,.slice none 0 0],[.int .i64 0,.int .i64 0,.int .i64 0,.seq .inss []],.flds [(0,3),(1,3),(2,3),(3,23)]⟩
def ty2 : TyI := ⟨false,1,8,[.int .i64 0],[.int .i64 0],.int .i64⟩
def ty5 : TyI := ⟨false,1,1,[.int .u8 0],[.int .u8 0],.int .u8⟩
def ty6 : TyI := ⟨false,1,1,[.int .u8 0],[.int .u8 0],.int .u8⟩
def ty7 : TyI := ⟨true,4,24,[.int .i64 0,.int .i64 0,.bool false,.int .u8 0],[.int .i64 0,.int .i64 0,.bool false,.int .u8 0],.flds [(0,2),(1,3),(2,4),(3,6)]⟩
def ty8 : TyI := ⟨true,4,24,[.int .i64 0,.int .i64 0,.bool false,.int .u8 0],[.int .i64 0,.int .i64 0,.bool false,.int .u8 0],.flds [(0,2),(1,3),(2,4),(3,6)]⟩
def ty9 : TyI := ⟨false,1,16,[.string ByteArray.empty],[.str ByteArray.empty],.str⟩
def ty10 : TyI := ⟨false,1,16,[.string ByteArray.empty],[.str ByteArray.empty],.str⟩
def ty11 : TyI := ⟨false,1,16,[.string ByteArray.empty],[.str ByteArray.empty],.str⟩
def ty12 : TyI := ⟨false,1,8,[.int .u64 0],[.int .u64 0],.int .u64⟩
def ty13 : TyI := ⟨true,2,24,[.string ByteArray.empty,.int .u64 0],[.str ByteArray.empty,.int .u64 0],.flds [(0,9),(1,12)]⟩
def ty14 : TyI := ⟨true,2,24,[.string ByteArray.empty,.int .u64 0],[.str ByteArray.empty,.int .u64 0],.flds [(0,9),(1,12)]⟩
def ty20 : TyI := ⟨false,1,16,[.nilIface],[.err false],.iface⟩
def ty21 : TyI := ⟨false,1,4,[.int .i32 0],[.int .i32 0],.int .i32⟩
def ty22 : TyI := ⟨false,1,24,[.slice none 0 0],[.seq .bytes []],.slice 5 .bytes⟩
def ty23 : TyI := ⟨false,1,24,[.slice none 0 0],[.seq .inss []],.slice 54 .inss⟩
def ty24 : TyI := ⟨true,4,48,[.int .i64 0,.int .i64 0,.int .i64 0,.slice none 0 0],[.int .i64 0,.int .i64 0,.int .i64 0,.seq .inss []],.flds [(0,3),(1,3),(2,3),(3,23)]⟩
def ty28 : TyI := ⟨false,1,24,[.slice none 0 0],[.seq .paths []],.slice 36 .paths⟩
def ty31 : TyI := ⟨false,1,24,[.slice none 0 0],[.seq .intss []],.slice 33 .intss⟩
def ty33 : TyI := ⟨false,1,24,[.slice none 0 0],[.seq .ints []],.slice 3 .ints⟩
def ty34 : TyI := ⟨false,1,24,[.slice none 0 0],[.seq .terms []],.slice 90 .terms⟩
def ty35 : TyI := ⟨true,10,176,[.int .i64 0,.slice none 0 0,.slice none 0 0,.slice none 0 0,.int .i64 0,.slice none 0 0,.int .i64 0,.int .i64 0,.slice none 0 0,.slice none 0 0],[.int .i64 0,.seq .terms [],.seq .terms [],.seq .ints [],.int .i64 0,.seq .terms [],.int .i64 0,.int .i64 0,.seq .terms [],.seq .ints []],.flds [(0,3),(1,34),(2,34),(3,33),(4,3),(5,34),(6,3),(7,3),(8,34),(9,33)]⟩
def ty36 : TyI := ⟨true,10,176,[.int .i64 0,.slice none 0 0,.slice none 0 0,.slice none 0 0,.int .i64 0,.slice none 0 0,.int .i64 0,.int .i64 0,.slice none 0 0,.slice none 0 0],[.int .i64 0,.seq .terms [],.seq .terms [],.seq .ints [],.int .i64 0,.seq .terms [],.int .i64 0,.int .i64 0,.seq .terms [],.seq .ints []],.flds [(0,3),(1,34),(2,34),(3,33),(4,3),(5,34),(6,3),(7,3),(8,34),(9,33)]⟩
def ty39 : TyI := ⟨true,8,128,[.int .i64 0,.slice none 0 0,.slice none 0 0,.slice none 0 0,.int .i64 0,.slice none 0 0,.int .i64 0,.int .i64 0],[.int .i64 0,.seq .ints [],.seq .ints [],.seq .ints [],.int .i64 0,.seq .ints [],.int .i64 0,.int .i64 0],.flds [(0,3),(1,33),(2,33),(3,33),(4,3),(5,33),(6,3),(7,3)]⟩
def ty40 : TyI := ⟨true,8,128,[.int .i64 0,.slice none 0 0,.slice none 0 0,.slice none 0 0,.int .i64 0,.slice none 0 0,.int .i64 0,.int .i64 0],[.int .i64 0,.seq .ints [],.seq .ints [],.seq .ints [],.int .i64 0,.seq .ints [],.int .i64 0,.int .i64 0],.flds [(0,3),(1,33),(2,33),(3,33),(4,3),(5,33),(6,3),(7,3)]⟩
def ty53 : TyI := ⟨true,4,32,[.int .i64 0,.int .i64 0,.int .i64 0,.int .i64 0],[.int .i64 0,.int .i64 0,.int .i64 0,.int .i64 0],.flds [(0,3),(1,3),(2,3),(3,3)]⟩
def ty63 : TyI := ⟨false,1,8,[.nilFunc],[.nof],.func⟩
def ty68 : TyI := ⟨false,1,24,[.slice none 0 0],[.seq .vals []],.slice 112 .vals⟩
def ty78 : TyI := ⟨true,3,40,[.slice none 0 0,.int .i64 0,.int .i64 0],[.seq .bytes [],.int .i64 0,.int .i64 0],.flds [(0,22),(1,3),(2,3)]⟩
def ty79 : TyI := ⟨true,3,40,[.slice none 0 0,.int .i64 0,.int .i64 0],[.seq .bytes [],.int .i64 0,.int .i64 0],.flds [(0,22),(1,3),(2,3)]⟩
def ty89 : TyI := ⟨true,5,64,[.int .i64 0,.int .i64 0,.int .i64 0,.string ByteArray.empty,.slice none 0 0],[.int .i64 0,.int .i64 0,.int .i64 0,.str ByteArray.empty,.seq .terms []],.flds [(0,3),(1,3),(2,3),(3,9),(4,34)]⟩
def ty90 : TyI := ⟨true,5,64,[.int .i64 0,.int .i64 0,.int .i64 0,.string ByteArray.empty,.slice none 0 0],[.int .i64 0,.int .i64 0,.int .i64 0,.str ByteArray.empty,.seq .terms []],.flds [(0,3),(1,3),(2,3),(3,9),(4,34)]⟩
def ty95 : TyI := ⟨true,1,1,[.bool false],[.bool false],.flds [(0,4)]⟩
def ty96 : TyI := ⟨true,1,1,[.bool false],[.bool false],.flds [(0,4)]⟩
def ty111 : TyI := ⟨true,3,32,[.string ByteArray.empty,.int .i64 0,.int .i64 0],[.str ByteArray.empty,.int .i64 0,.int .i64 0],.flds [(0,9),(1,3),(2,3)]⟩
def ty112 : TyI := ⟨true,3,32,[.string ByteArray.empty,.int .i64 0,.int .i64 0],[.str ByteArray.empty,.int .i64 0,.int .i64 0],.flds [(0,9),(1,3),(2,3)]⟩
def ty117 : TyI := ⟨false,1,8,[.nilFunc],[.nof],.func⟩
def ty118 : TyI := ⟨true,5,56,[.int .i64 0,.slice none 0 0,.bool false,.nilFunc,.nilFunc],[.int .i64 0,.seq .paths [],.bool false,.nof,.nof],.flds [(0,3),(1,28),(2,4),(3,63),(4,117)]⟩
def ty119 : TyI := ⟨true,5,56,[.int .i64 0,.slice none 0 0,.bool false,.nilFunc,.nilFunc],[.int .i64 0,.seq .paths [],.bool false,.nof,.nof],.flds [(0,3),(1,28),(2,4),(3,63),(4,117)]⟩
def ty123 : TyI := ⟨true,7,88,[.int .i64 0,.int .i64 0,.int .i64 0,.slice none 0 0,.int .i64 0,.int .i64 0,.slice none 0 0],[.int .i64 0,.int .i64 0,.int .i64 0,.seq .inss [],.int .i64 0,.int .i64 0,.seq .paths []],.flds [(0,25),(4,3),(5,3),(6,28)]⟩
def ty124 : TyI := ⟨true,7,88,[.int .i64 0,.int .i64 0,.int .i64 0,.slice none 0 0,.int .i64 0,.int .i64 0,.slice none 0 0],[.int .i64 0,.int .i64 0,.int .i64 0,.seq .inss [],.int .i64 0,.int .i64 0,.seq .paths []],.flds [(0,25),(4,3),(5,3),(6,28)]⟩
def ty127 : TyI := ⟨false,1,8,[.int .u64 0],[.int .u64 0],.int .u64⟩
def ty141 : TyI := ⟨false,1,8,[.map none],[],.map⟩
def ty161 : TyI := ⟨true,2,16,[.int .i64 0,.map none],[],.flds [(0,3),(1,141)]⟩
def ty162 : TyI := ⟨true,2,16,[.int .i64 0,.map none],[],.flds [(0,3),(1,141)]⟩
def ty188 : TyI := ⟨true,2,32,[.int .i64 0,.slice none 0 0],[.int .i64 0,.seq .intss []],.flds [(0,3),(1,31)]⟩
def ty189 : TyI := ⟨true,2,32,[.int .i64 0,.slice none 0 0],[.int .i64 0,.seq .intss []],.flds [(0,3),(1,31)]⟩
def ty192 : TyI := ⟨false,1,24,[.slice none 0 0],[.seq .bools []],.slice 4 .bools⟩
def ty204 : TyI := ⟨false,1,8,[.int .i64 0],[.int .i64 0],.int .i64⟩
def ty211 : TyI := ⟨false,1,4,[.int .u32 0],[.int .u32 0],.int .u32⟩
def ty213 : TyI := ⟨false,1,8,[.int .u64 0],[.int .u64 0],.int .u64⟩
def ty226 : TyI := ⟨true,2,16,[.int .i64 0,.int .i64 0],[.int .i64 0,.int .i64 0],.flds [(0,3),(1,3)]⟩
def ty227 : TyI := ⟨true,2,16,[.int .i64 0,.int .i64 0],[.int .i64 0,.int .i64 0],.flds [(0,3),(1,3)]⟩
def ty233 : TyI := ⟨true,5,56,[.int .i64 0,.slice none 0 0,.int .i64 0,.int .i64 0,.bool false],[.int .i64 0,.seq .intss [],.int .i64 0,.int .i64 0,.bool false],.flds [(0,189),(2,3),(3,3),(4,4)]⟩
def ty234 : TyI := ⟨true,5,56,[.int .i64 0,.slice none 0 0,.int .i64 0,.int .i64 0,.bool false],[.int .i64 0,.seq .intss [],.int .i64 0,.int .i64 0,.bool false],.flds [(0,189),(2,3),(3,3),(4,4)]⟩
def ty243 : TyI := ⟨false,1,8,[.int .u64 0],[.int .u64 0],.int .u64⟩
def ty271 : TyI := ⟨false,1,1,[.int .u8 0],[.int .u8 0],.int .u8⟩
def ty272 : TyI := ⟨false,1,1,[.int .u8 0],[.int .u8 0],.int .u8⟩
def ty275 : TyI := ⟨false,1,4,[.int .i32 0],[.int .i32 0],.int .i32⟩
def ty276 : TyI := ⟨false,1,4,[.int .i32 0],[.int .i32 0],.int .i32⟩
def tauL : List (Nat × TyI) := [(3,ty3),(4,ty4),(54,ty54),(25,ty25),(2,ty2),(5,ty5),(6,ty6),(7,ty7),(8,ty8),(9,ty9),(10,ty10),(11,ty11),(12,ty12),(13,ty13),(14,ty14),(20,ty20),(21,ty21),(22,ty22),(23,ty23),(24,ty24),(28,ty28),(31,ty31),(33,ty33),(34,ty34),(35,ty35),(36,ty36),(39,ty39),(40,ty40),(53,ty53),(63,ty63),(68,ty68),(78,ty78),(79,ty79),(89,ty89),(90,ty90),(95,ty95),(96,ty96),(111,ty111),(112,ty112),(117,ty117),(118,ty118),(119,ty119),(123,ty123),(124,ty124),(127,ty127),(141,ty141),(161,ty161),(162,ty162),(188,ty188),(189,ty189),(192,ty192),(204,ty204),(211,ty211),(213,ty213),(226,ty226),(227,ty227),(233,ty233),(234,ty234),(243,ty243),(271,ty271),(272,ty272),(275,ty275),(276,ty276)]
def tau : Tys := jR tauL
theorem tyOk3 : TyOk Tryz.prog 3 ty3 := .of _ _ rfl rfl rfl rfl rfl (.inr rfl) rfl rfl _ rfl rfl rfl
theorem tyOk4 : TyOk Tryz.prog 4 ty4 := .of _ _ rfl rfl rfl rfl rfl (.inr rfl) rfl rfl _ rfl rfl rfl
theorem tyOk54 : TyOk Tryz.prog 54 ty54 := .of _ _ rfl rfl rfl rfl rfl (.inr rfl) rfl rfl _ rfl rfl ⟨_,rfl,rfl⟩
theorem tyOk25 : TyOk Tryz.prog 25 ty25 := .of _ _ rfl rfl rfl rfl rfl (.inr rfl) rfl rfl _ rfl rfl ⟨_,rfl,rfl⟩
theorem tyOk2 : TyOk Tryz.prog 2 ty2 := .of _ _ rfl rfl rfl rfl rfl (.inr rfl) rfl rfl _ rfl rfl rfl
theorem tyOk5 : TyOk Tryz.prog 5 ty5 := .of _ _ rfl rfl rfl rfl rfl (.inr rfl) rfl rfl _ rfl rfl rfl
theorem tyOk6 : TyOk Tryz.prog 6 ty6 := .of _ _ rfl rfl rfl rfl rfl (.inr rfl) rfl rfl _ rfl rfl rfl
theorem tyOk7 : TyOk Tryz.prog 7 ty7 := .of _ _ rfl rfl rfl rfl rfl (.inr rfl) rfl rfl _ rfl rfl ⟨_,rfl,rfl⟩
theorem tyOk8 : TyOk Tryz.prog 8 ty8 := .of _ _ rfl rfl rfl rfl rfl (.inr rfl) rfl rfl _ rfl rfl ⟨_,rfl,rfl⟩
theorem tyOk9 : TyOk Tryz.prog 9 ty9 := .of _ _ rfl rfl rfl rfl rfl (.inr rfl) rfl rfl _ rfl rfl rfl
theorem tyOk10 : TyOk Tryz.prog 10 ty10 := .of _ _ rfl rfl rfl rfl rfl (.inr rfl) rfl rfl _ rfl rfl rfl
theorem tyOk11 : TyOk Tryz.prog 11 ty11 := .of _ _ rfl rfl rfl rfl rfl (.inr rfl) rfl rfl _ rfl rfl rfl
theorem tyOk12 : TyOk Tryz.prog 12 ty12 := .of _ _ rfl rfl rfl rfl rfl (.inr rfl) rfl rfl _ rfl rfl rfl
theorem tyOk13 : TyOk Tryz.prog 13 ty13 := .of _ _ rfl rfl rfl rfl rfl (.inr rfl) rfl rfl _ rfl rfl ⟨_,rfl,rfl⟩
theorem tyOk14 : TyOk Tryz.prog 14 ty14 := .of _ _ rfl rfl rfl rfl rfl (.inr rfl) rfl rfl _ rfl rfl ⟨_,rfl,rfl⟩
theorem tyOk20 : TyOk Tryz.prog 20 ty20 := .of _ _ rfl rfl rfl rfl rfl (.inr rfl) rfl rfl _ rfl rfl ⟨_,rfl⟩
theorem tyOk21 : TyOk Tryz.prog 21 ty21 := .of _ _ rfl rfl rfl rfl rfl (.inr rfl) rfl rfl _ rfl rfl rfl
theorem tyOk22 : TyOk Tryz.prog 22 ty22 := .of _ _ rfl rfl rfl rfl rfl (.inr rfl) rfl rfl _ rfl rfl rfl
theorem tyOk23 : TyOk Tryz.prog 23 ty23 := .of _ _ rfl rfl rfl rfl rfl (.inr rfl) rfl rfl _ rfl rfl rfl
theorem tyOk24 : TyOk Tryz.prog 24 ty24 := .of _ _ rfl rfl rfl rfl rfl (.inr rfl) rfl rfl _ rfl rfl ⟨_,rfl,rfl⟩
theorem tyOk28 : TyOk Tryz.prog 28 ty28 := .of _ _ rfl rfl rfl rfl rfl (.inr rfl) rfl rfl _ rfl rfl rfl
theorem tyOk31 : TyOk Tryz.prog 31 ty31 := .of _ _ rfl rfl rfl rfl rfl (.inr rfl) rfl rfl _ rfl rfl rfl
theorem tyOk33 : TyOk Tryz.prog 33 ty33 := .of _ _ rfl rfl rfl rfl rfl (.inr rfl) rfl rfl _ rfl rfl rfl
theorem tyOk34 : TyOk Tryz.prog 34 ty34 := .of _ _ rfl rfl rfl rfl rfl (.inr rfl) rfl rfl _ rfl rfl rfl
theorem tyOk35 : TyOk Tryz.prog 35 ty35 := .of _ _ rfl rfl rfl rfl rfl (.inr rfl) rfl rfl _ rfl rfl ⟨_,rfl,rfl⟩
theorem tyOk36 : TyOk Tryz.prog 36 ty36 := .of _ _ rfl rfl rfl rfl rfl (.inr rfl) rfl rfl _ rfl rfl ⟨_,rfl,rfl⟩
theorem tyOk39 : TyOk Tryz.prog 39 ty39 := .of _ _ rfl rfl rfl rfl rfl (.inr rfl) rfl rfl _ rfl rfl ⟨_,rfl,rfl⟩
theorem tyOk40 : TyOk Tryz.prog 40 ty40 := .of _ _ rfl rfl rfl rfl rfl (.inr rfl) rfl rfl _ rfl rfl ⟨_,rfl,rfl⟩
theorem tyOk53 : TyOk Tryz.prog 53 ty53 := .of _ _ rfl rfl rfl rfl rfl (.inr rfl) rfl rfl _ rfl rfl ⟨_,rfl,rfl⟩
theorem tyOk63 : TyOk Tryz.prog 63 ty63 := .of _ _ rfl rfl rfl rfl rfl (.inr rfl) rfl rfl _ rfl rfl ⟨_,_,_,rfl⟩
theorem tyOk68 : TyOk Tryz.prog 68 ty68 := .of _ _ rfl rfl rfl rfl rfl (.inr rfl) rfl rfl _ rfl rfl rfl
theorem tyOk78 : TyOk Tryz.prog 78 ty78 := .of _ _ rfl rfl rfl rfl rfl (.inr rfl) rfl rfl _ rfl rfl ⟨_,rfl,rfl⟩
theorem tyOk79 : TyOk Tryz.prog 79 ty79 := .of _ _ rfl rfl rfl rfl rfl (.inr rfl) rfl rfl _ rfl rfl ⟨_,rfl,rfl⟩
theorem tyOk89 : TyOk Tryz.prog 89 ty89 := .of _ _ rfl rfl rfl rfl rfl (.inr rfl) rfl rfl _ rfl rfl ⟨_,rfl,rfl⟩
theorem tyOk90 : TyOk Tryz.prog 90 ty90 := .of _ _ rfl rfl rfl rfl rfl (.inr rfl) rfl rfl _ rfl rfl ⟨_,rfl,rfl⟩
theorem tyOk95 : TyOk Tryz.prog 95 ty95 := .of _ _ rfl rfl rfl rfl rfl (.inr rfl) rfl rfl _ rfl rfl ⟨_,rfl,rfl⟩
theorem tyOk96 : TyOk Tryz.prog 96 ty96 := .of _ _ rfl rfl rfl rfl rfl (.inr rfl) rfl rfl _ rfl rfl ⟨_,rfl,rfl⟩
theorem tyOk111 : TyOk Tryz.prog 111 ty111 := .of _ _ rfl rfl rfl rfl rfl (.inr rfl) rfl rfl _ rfl rfl ⟨_,rfl,rfl⟩
theorem tyOk112 : TyOk Tryz.prog 112 ty112 := .of _ _ rfl rfl rfl rfl rfl (.inr rfl) rfl rfl _ rfl rfl ⟨_,rfl,rfl⟩
theorem tyOk117 : TyOk Tryz.prog 117 ty117 := .of _ _ rfl rfl rfl rfl rfl (.inr rfl) rfl rfl _ rfl rfl ⟨_,_,_,rfl⟩
theorem tyOk118 : TyOk Tryz.prog 118 ty118 := .of _ _ rfl rfl rfl rfl rfl (.inr rfl) rfl rfl _ rfl rfl ⟨_,rfl,rfl⟩
theorem tyOk119 : TyOk Tryz.prog 119 ty119 := .of _ _ rfl rfl rfl rfl rfl (.inr rfl) rfl rfl _ rfl rfl ⟨_,rfl,rfl⟩
theorem tyOk123 : TyOk Tryz.prog 123 ty123 := .of _ _ rfl rfl rfl rfl rfl (.inr rfl) rfl rfl _ rfl rfl ⟨_,rfl,rfl⟩
theorem tyOk124 : TyOk Tryz.prog 124 ty124 := .of _ _ rfl rfl rfl rfl rfl (.inr rfl) rfl rfl _ rfl rfl ⟨_,rfl,rfl⟩
theorem tyOk127 : TyOk Tryz.prog 127 ty127 := .of _ _ rfl rfl rfl rfl rfl (.inr rfl) rfl rfl _ rfl rfl rfl
theorem tyOk141 : TyOk Tryz.prog 141 ty141 := .of _ _ rfl rfl rfl rfl rfl (.inl rfl) rfl rfl _ rfl rfl ⟨_,_,rfl,rfl,fun _=>rfl⟩
theorem tyOk161 : TyOk Tryz.prog 161 ty161 := .of _ _ rfl rfl rfl rfl rfl (.inl rfl) rfl rfl _ rfl rfl ⟨_,rfl,rfl⟩
theorem tyOk162 : TyOk Tryz.prog 162 ty162 := .of _ _ rfl rfl rfl rfl rfl (.inl rfl) rfl rfl _ rfl rfl ⟨_,rfl,rfl⟩
theorem tyOk188 : TyOk Tryz.prog 188 ty188 := .of _ _ rfl rfl rfl rfl rfl (.inr rfl) rfl rfl _ rfl rfl ⟨_,rfl,rfl⟩
theorem tyOk189 : TyOk Tryz.prog 189 ty189 := .of _ _ rfl rfl rfl rfl rfl (.inr rfl) rfl rfl _ rfl rfl ⟨_,rfl,rfl⟩
theorem tyOk192 : TyOk Tryz.prog 192 ty192 := .of _ _ rfl rfl rfl rfl rfl (.inr rfl) rfl rfl _ rfl rfl rfl
theorem tyOk204 : TyOk Tryz.prog 204 ty204 := .of _ _ rfl rfl rfl rfl rfl (.inr rfl) rfl rfl _ rfl rfl rfl
theorem tyOk211 : TyOk Tryz.prog 211 ty211 := .of _ _ rfl rfl rfl rfl rfl (.inr rfl) rfl rfl _ rfl rfl rfl
theorem tyOk213 : TyOk Tryz.prog 213 ty213 := .of _ _ rfl rfl rfl rfl rfl (.inr rfl) rfl rfl _ rfl rfl rfl
theorem tyOk226 : TyOk Tryz.prog 226 ty226 := .of _ _ rfl rfl rfl rfl rfl (.inr rfl) rfl rfl _ rfl rfl ⟨_,rfl,rfl⟩
theorem tyOk227 : TyOk Tryz.prog 227 ty227 := .of _ _ rfl rfl rfl rfl rfl (.inr rfl) rfl rfl _ rfl rfl ⟨_,rfl,rfl⟩
theorem tyOk233 : TyOk Tryz.prog 233 ty233 := .of _ _ rfl rfl rfl rfl rfl (.inr rfl) rfl rfl _ rfl rfl ⟨_,rfl,rfl⟩
theorem tyOk234 : TyOk Tryz.prog 234 ty234 := .of _ _ rfl rfl rfl rfl rfl (.inr rfl) rfl rfl _ rfl rfl ⟨_,rfl,rfl⟩
theorem tyOk243 : TyOk Tryz.prog 243 ty243 := .of _ _ rfl rfl rfl rfl rfl (.inr rfl) rfl rfl _ rfl rfl rfl
theorem tyOk271 : TyOk Tryz.prog 271 ty271 := .of _ _ rfl rfl rfl rfl rfl (.inr rfl) rfl rfl _ rfl rfl rfl
theorem tyOk272 : TyOk Tryz.prog 272 ty272 := .of _ _ rfl rfl rfl rfl rfl (.inr rfl) rfl rfl _ rfl rfl rfl
theorem tyOk275 : TyOk Tryz.prog 275 ty275 := .of _ _ rfl rfl rfl rfl rfl (.inr rfl) rfl rfl _ rfl rfl rfl
theorem tyOk276 : TyOk Tryz.prog 276 ty276 := .of _ _ rfl rfl rfl rfl rfl (.inr rfl) rfl rfl _ rfl rfl rfl
theorem yP : d6 Tryz.prog tau := qc5 ⟨tyOk3,tyOk4,tyOk54,tyOk25,tyOk2,tyOk5,tyOk6,tyOk7,tyOk8,tyOk9,tyOk10,tyOk11,tyOk12,tyOk13,tyOk14,tyOk20,tyOk21,tyOk22,tyOk23,tyOk24,tyOk28,tyOk31,tyOk33,tyOk34,tyOk35,tyOk36,tyOk39,tyOk40,tyOk53,tyOk63,tyOk68,tyOk78,tyOk79,tyOk89,tyOk90,tyOk95,tyOk96,tyOk111,tyOk112,tyOk117,tyOk118,tyOk119,tyOk123,tyOk124,tyOk127,tyOk141,tyOk161,tyOk162,tyOk188,tyOk189,tyOk192,tyOk204,tyOk211,tyOk213,tyOk226,tyOk227,tyOk233,tyOk234,tyOk243,tyOk271,tyOk272,tyOk275,tyOk276,trivial⟩
theorem aW : Tryz.prog.follows .mixedOrders = true := rfl
end Vg
namespace Go.Proofs
open Go.Shelf
def Tryz.lays106_ren : Go.Shelf.Ren := ⟨fun|106=>226|213=>251|265=>265|n=>n,fun|9=>9|3=>3|n=>n,fun|n=>n⟩
theorem Tryz.lays106 : Go.Proofs.Lays.n106 Tryz.prog Tryz.lays106_ren := {
  mixed := by kernel_rfl
  f106 := Tryz.func226.trans (congrArg some (by kernel_rfl))
  f213 := Tryz.func251.trans (congrArg some (by kernel_rfl))
  f265 := Tryz.func265.trans (congrArg some (by kernel_rfl))
  t3 := Tryz.underlying3
  a3 := Tryz.isAgg3
  z3 := Tryz.sizeOf3
  v3 := Tryz.zeroValue3
  t9 := Tryz.underlying9
  a9 := Tryz.isAgg9
  z9 := Tryz.sizeOf9
  v9 := Tryz.zeroValue9 }
def Tryz.sortVals_ren : Go.Shelf.Ren := ⟨fun|6=>142|15=>171|14=>170|28=>209|29=>210|20=>201|21=>202|22=>203|23=>204|24=>205|25=>206|26=>207|27=>208|46=>233|47=>234|48=>235|49=>236|50=>237|57=>253|n=>n,fun|22=>68|24=>112|25=>167|3=>3|39=>127|0=>0|53=>211|55=>213|4=>4|46=>205|45=>204|50=>108|5=>5|9=>9|66=>243|70=>158|76=>253|77=>254|n=>n,fun|n=>n⟩
theorem Tryz.sortVals : Go.Proofs.SlLaysF0.n6 Tryz.prog Tryz.sortVals_ren := {
  mixed := by kernel_rfl
  f6 := ⟨Tryz.f142.name,by decide,Tryz.func142.trans (congrArg some (by kernel_rfl))⟩
  f14 := ⟨Tryz.f170.name,by decide,Tryz.func170.trans (congrArg some (by kernel_rfl))⟩
  f15 := Tryz.func171.trans (congrArg some (by kernel_rfl))
  f20 := ⟨Tryz.f201.name,by decide,Tryz.func201.trans (congrArg some (by kernel_rfl))⟩
  f21 := ⟨Tryz.f202.name,by decide,Tryz.func202.trans (congrArg some (by kernel_rfl))⟩
  f22 := ⟨Tryz.f203.name,by decide,Tryz.func203.trans (congrArg some (by kernel_rfl))⟩
  f23 := ⟨Tryz.f204.name,by decide,Tryz.func204.trans (congrArg some (by kernel_rfl))⟩
  f24 := ⟨Tryz.f205.name,by decide,Tryz.func205.trans (congrArg some (by kernel_rfl))⟩
  f25 := ⟨Tryz.f206.name,by decide,Tryz.func206.trans (congrArg some (by kernel_rfl))⟩
  f26 := ⟨Tryz.f207.name,by decide,Tryz.func207.trans (congrArg some (by kernel_rfl))⟩
  f27 := ⟨Tryz.f208.name,by decide,Tryz.func208.trans (congrArg some (by kernel_rfl))⟩
  f28 := Tryz.func209.trans (congrArg some (by kernel_rfl))
  f29 := Tryz.func210.trans (congrArg some (by kernel_rfl))
  f46 := ⟨Tryz.f233.name,by decide,Tryz.func233.trans (congrArg some (by kernel_rfl))⟩
  f47 := Tryz.func234.trans (congrArg some (by kernel_rfl))
  f48 := Tryz.func235.trans (congrArg some (by kernel_rfl))
  f49 := ⟨Tryz.f236.name,by decide,Tryz.func236.trans (congrArg some (by kernel_rfl))⟩
  f50 := ⟨Tryz.f237.name,by decide,Tryz.func237.trans (congrArg some (by kernel_rfl))⟩
  f57 := ⟨Tryz.f253.name,by decide,Tryz.func253.trans (congrArg some (by kernel_rfl))⟩
  t0 := Tryz.underlying0
  a0 := Tryz.isAgg0
  z0 := Tryz.sizeOf0
  v0 := Tryz.zeroValue0
  t3 := Tryz.underlying3
  a3 := Tryz.isAgg3
  z3 := Tryz.sizeOf3
  v3 := Tryz.zeroValue3
  t4 := Tryz.underlying4
  a4 := Tryz.isAgg4
  z4 := Tryz.sizeOf4
  v4 := Tryz.zeroValue4
  t5 := Tryz.underlying5
  a5 := Tryz.isAgg5
  z5 := Tryz.sizeOf5
  v5 := Tryz.zeroValue5
  t9 := Tryz.underlying9
  a9 := Tryz.isAgg9
  z9 := Tryz.sizeOf9
  v9 := Tryz.zeroValue9
  t22 := Tryz.underlying68
  a22 := Tryz.isAgg68
  z22 := Tryz.sizeOf68
  v22 := Tryz.zeroValue68
  t25 := Tryz.underlying167
  a25 := Tryz.isAgg167
  z25 := Tryz.sizeOf167
  v25 := Tryz.zeroValue167
  t39 := Tryz.underlying127
  a39 := Tryz.isAgg127
  z39 := Tryz.sizeOf127
  v39 := Tryz.zeroValue127
  t45 := Tryz.underlying204
  a45 := Tryz.isAgg204
  z45 := Tryz.sizeOf204
  v45 := Tryz.zeroValue204
  t46 := Tryz.underlying205
  a46 := Tryz.isAgg205
  z46 := Tryz.sizeOf205
  v46 := Tryz.zeroValue205
  t50 := Tryz.underlying108
  a50 := Tryz.isAgg108
  z50 := Tryz.sizeOf108
  v50 := Tryz.zeroValue108
  t53 := Tryz.underlying211
  a53 := Tryz.isAgg211
  z53 := Tryz.sizeOf211
  v53 := Tryz.zeroValue211
  t55 := Tryz.underlying213
  a55 := Tryz.isAgg213
  z55 := Tryz.sizeOf213
  v55 := Tryz.zeroValue213
  t66 := Tryz.underlying243
  a66 := Tryz.isAgg243
  z66 := Tryz.sizeOf243
  v66 := Tryz.zeroValue243
  t70 := Tryz.underlying158
  a70 := Tryz.isAgg158
  z70 := Tryz.sizeOf158
  v70 := Tryz.zeroValue158
  t76 := Tryz.underlying253
  a76 := Tryz.isAgg253
  z76 := Tryz.sizeOf253
  v76 := Tryz.zeroValue253
  t77 := Tryz.underlying254
  a77 := Tryz.isAgg254
  z77 := Tryz.sizeOf254
  v77 := Tryz.zeroValue254 }
end Go.Proofs
namespace Vg
open Go Go.Proofs
set_option maxRecDepth 100000
set_option maxHeartbeats 40000000
theorem qhf {a b : Prop} (hb : b) (ha : a) : a /\ b := ⟨ha,hb⟩
theorem pcI {P : Program} {τ : Tys} {S : AState} {blk : Nat -> Option Blk} {dst : Option Nat} {g : Nat} {Ts Ts' : List Nat} {vs vs' vs'' : List AV} {K : AV -> Prop} {K' K'' : AState -> Prop} {Z : Prop} (h : fF P τ blk g Ts vs K) :
    fF P τ blk g Ts vs K \/ iH P τ S dst g Ts' vs' K' \/ nI P S dst g vs'' K'' \/ Z := .inl h
theorem fcI {P : Program} {τ : Tys} {S : AState} {blk : Nat -> Option Blk} {dst : Option Nat} {g : Nat} {Ts Ts' : List Nat} {vs vs' vs'' : List AV} {K : AV -> Prop} {K' K'' : AState -> Prop} {Z : Prop} (h : iH P τ S dst g Ts' vs' K') :
    fF P τ blk g Ts vs K \/ iH P τ S dst g Ts' vs' K' \/ nI P S dst g vs'' K'' \/ Z := .inr (.inl h)
theorem noTF {b : Bool} {p : Prop} (h : b = false) (h2 : b = true) : p := Bool.noConfusion (h.symm.trans h2)
theorem iC {P : Program} {τ : Tys} {S : AState} {blk : Nat -> Option Blk} {dst : Option Nat} {g : Nat} {Ts Ts' : List Nat} {vs vs' vs'' : List AV} {K : AV -> Prop} {K' K'' : AState -> Prop} {Z : Prop} (h : nI P S dst g vs'' K'') :
    fF P τ blk g Ts vs K \/ iH P τ S dst g Ts' vs' K' \/ nI P S dst g vs'' K'' \/ Z := .inr (.inr (.inl h))
theorem y9 {P : Program} {τ : Tys} {S : AState} {blk : Nat -> Option Blk} {dst : Option Nat} {g : Nat} {Ts Ts' : List Nat} {vs vs' vs'' : List AV} {K : AV -> Prop} {K' K'' : AState -> Prop} {Z : Prop} (h : Z) :
    fF P τ blk g Ts vs K \/ iH P τ S dst g Ts' vs' K' \/ nI P S dst g vs'' K'' \/ Z := .inr (.inr (.inr h))
theorem j3 {n : Int} (h1 : -9223372036854775808 <= n) (h2 : n < 9223372036854775808) : IntKind.i64.wrap n = n := by
  simp only [IntKind.wrap]
  have e1 : (2 : Int) ^ IntKind.i64.bits = 18446744073709551616 := rfl
  have e2 : (2 : Int) ^ (IntKind.i64.bits - 1) = 9223372036854775808 := rfl
  have e3 : IntKind.i64.signed = true := rfl
  simp only [e1,e2,e3]
  have h3 := Int.emod_emod_of_dvd n (Int.dvd_refl 18446744073709551616)
  split <;> rename_i hc <;> simp at hc <;> omega
theorem wrap_succ {k m : Nat} (h : (k : Int) < m) (hm : m <= maxLen) : IntKind.i64.wrap ((k : Int) + 1) = ((k + 1 : Nat) : Int) := by
  have : maxLen = 9223372036854775807 := rfl
  rw [j3] <;> omega
theorem sp_T {A B : Prop} (h : A) : (true = true -> A) /\ (true = false -> B) := ⟨fun _=>h,fun h=>by cases h⟩
theorem sp_F {A B : Prop} (h : B) : (false = true -> A) /\ (false = false -> B) := ⟨fun h=>(by cases h),fun _=>h⟩
theorem sp_T' {A B : Prop} (h : A) : (true = false -> B) /\ (true = true -> A) := ⟨fun h=>(by cases h),fun _=>h⟩
theorem sp_F' {A B : Prop} (h : B) : (false = false -> B) /\ (false = true -> A) := ⟨fun _=>h,fun h=>by cases h⟩
theorem sp_d {p A B : Prop} [Decidable p] (h1 : p -> A) (h2 : ¬ p -> B) : (decide p = true -> A) /\ (decide p = false -> B) := ⟨fun h=>h1 (of_decide_eq_true h),fun h=>h2 (of_decide_eq_false h)⟩
theorem sp_d' {p A B : Prop} [Decidable p] (h1 : ¬ p -> A) (h2 : p -> B) : (decide p = false -> A) /\ (decide p = true -> B) := ⟨fun h=>h1 (of_decide_eq_false h),fun h=>h2 (of_decide_eq_true h)⟩
theorem sp_b {b : Bool} {A B : Prop} (h1 : b = true -> A) (h2 : b = false -> B) : (b = true -> A) /\ (b = false -> B) := ⟨h1,h2⟩
theorem sp_b' {b : Bool} {A B : Prop} (h1 : b = false -> A) (h2 : b = true -> B) : (b = false -> A) /\ (b = true -> B) := ⟨h1,h2⟩
theorem sp_nb {b : Bool} {A B : Prop} (h1 : b = false -> A) (h2 : b = true -> B) : ((!b) = true -> A) /\ ((!b) = false -> B) := ⟨fun h=>h1 (by simpa using h),fun h=>h2 (by simpa using h)⟩
theorem sp_nb' {b : Bool} {A B : Prop} (h1 : b = true -> A) (h2 : b = false -> B) : ((!b) = false -> A) /\ ((!b) = true -> B) := ⟨fun h=>h1 (by simpa using h),fun h=>h2 (by simpa using h)⟩
theorem bnd2 {a b c d : Int} (h1 : a <= b) (h2 : c < d) : a <= b /\ c < d := ⟨h1,h2⟩
theorem bnd2' {a b c d : Int} (h1 : a <= b) (h2 : c <= d) : a <= b /\ c <= d := ⟨h1,h2⟩
theorem bndN {a b c d : Nat} (h1 : a <= b) (h2 : c <= d) : a <= b /\ c <= d := ⟨h1,h2⟩
theorem o0 {σ : List (Nat × Option Nat)} {d' d : Dat} (h : d' = d) : wk σ (.dat d') (.dat d) := h
theorem j0 {σ : List (Nat × Option Nat)} {d' d : Dat} (h : d' = d) : wkC σ (.dat d') (.dat d) := h
theorem lH {α : Type} {f : α -> Bool} {l : List α} {k : Nat} (d : α) (h : (k : Int) < l.length) : (l.take (k + 1)).all f = ((l.take k).all f && f (l.getD k d)) := by
  have h' : k < l.length := by omega
  rw [List.take_succ_eq_append_getElem h',List.all_append]
  simp [List.getD_eq_getElem?_getD,h']
theorem gK {α : Type} {f : α -> Bool} {l : List α} {k : Nat} {d : α} (h : (k : Int) < l.length) (hf : f (l.getD k d) = false) : l.all f = false := by
  have h' : k < l.length := by omega
  simp only [List.getD_eq_getElem?_getD,List.getElem?_eq_getElem h',Option.getD_some] at hf
  exact List.all_eq_false.2 ⟨l[k],List.getElem_mem h',by simp [hf]⟩
theorem tM {α : Type} {f : α -> Bool} {l : List α} {k : Nat} (h : ¬ (k : Int) < l.length) (hf : (l.take k).all f = true) : l.all f = true := by
  rwa [List.take_of_length_le omG] at hf
theorem sp_e {a b : Int} {A B : Prop} (h1 : a = b -> A) (h2 : ¬ a = b -> B) : ((a == b) = true -> A) /\ ((a == b) = false -> B) := ⟨fun h=>h1 (by simpa using h),fun h=>h2 (by simpa using h)⟩
theorem sp_e' {a b : Int} {A B : Prop} (h1 : ¬ a = b -> A) (h2 : a = b -> B) : ((a == b) = false -> A) /\ ((a == b) = true -> B) := ⟨fun h=>h1 (by simpa using h),fun h=>h2 (by simpa using h)⟩
theorem sp_n {a b : Int} {A B : Prop} (h1 : ¬ a = b -> A) (h2 : a = b -> B) : ((a != b) = true -> A) /\ ((a != b) = false -> B) := ⟨fun h=>h1 (by simpa using h),fun h=>h2 (by simpa using h)⟩
theorem sp_n' {a b : Int} {A B : Prop} (h1 : a = b -> A) (h2 : ¬ a = b -> B) : ((a != b) = false -> A) /\ ((a != b) = true -> B) := ⟨fun h=>h1 (by simpa using h),fun h=>h2 (by simpa using h)⟩
theorem sp_eF {a b : Int} {A B : Prop} (hn : ¬ a = b) (h2 : B) : ((a == b) = true -> A) /\ ((a == b) = false -> B) := ⟨fun h=>(hn (by simpa using h)).elim,fun _=>h2⟩
theorem sp_eT {a : Int} {A B : Prop} (h1 : A) : ((a == a) = true -> A) /\ ((a == a) = false -> B) := ⟨fun _=>h1,fun h=>(by simp at h)⟩
theorem sp_dF {p A B : Prop} [Decidable p] (hn : ¬ p) (h2 : B) : (decide p = true -> A) /\ (decide p = false -> B) := ⟨fun h=>(hn (of_decide_eq_true h)).elim,fun _=>h2⟩
theorem sp_dT {p A B : Prop} [Decidable p] (hn : p) (h2 : A) : (decide p = true -> A) /\ (decide p = false -> B) := ⟨fun _=>h2,fun h=>(of_decide_eq_false h hn).elim⟩
/-! ### steps that the walks share: what a step leaves is handed on as it is found (the default argument finds it) -/
structure Bx (R : Prop) : Prop where
  u : R
structure SplS (p q A B : Prop) : Prop where
  l : p -> A
  r : q -> B
section
variable {A B : Prop}
theorem ss_d {p : Prop} [Decidable p] (h : SplS p (¬ p) A B) : (decide p = true -> A) /\ (decide p = false -> B) := sp_d h.l h.r
theorem ss_d' {p : Prop} [Decidable p] (h : SplS (¬ p) p A B) : (decide p = false -> A) /\ (decide p = true -> B) := sp_d' h.l h.r
theorem ss_e {a b : Int} (h : SplS (a = b) (¬ a = b) A B) : ((a == b) = true -> A) /\ ((a == b) = false -> B) := sp_e h.l h.r
theorem ss_e' {a b : Int} (h : SplS (¬ a = b) (a = b) A B) : ((a == b) = false -> A) /\ ((a == b) = true -> B) := sp_e' h.l h.r
theorem ss_n {a b : Int} (h : SplS (¬ a = b) (a = b) A B) : ((a != b) = true -> A) /\ ((a != b) = false -> B) := sp_n h.l h.r
theorem ss_n' {a b : Int} (h : SplS (a = b) (¬ a = b) A B) : ((a != b) = false -> A) /\ ((a != b) = true -> B) := sp_n' h.l h.r
theorem ss_nb {b : Bool} (h : SplS (b = false) (b = true) A B) : ((!b) = true -> A) /\ ((!b) = false -> B) := sp_nb h.l h.r
theorem ss_nb' {b : Bool} (h : SplS (b = true) (b = false) A B) : ((!b) = false -> A) /\ ((!b) = true -> B) := sp_nb' h.l h.r
theorem ss_b {b : Bool} (h : SplS (b = true) (b = false) A B) : (b = true -> A) /\ (b = false -> B) := sp_b h.l h.r
theorem ss_b' {b : Bool} (h : SplS (b = false) (b = true) A B) : (b = false -> A) /\ (b = true -> B) := sp_b' h.l h.r
end
theorem f2 {A B G : Prop} (a : Bx A) (b : Bx B) (f : Bx A -> Bx B -> G := by
    intro a b
    first
    | (with_reducible first|exact bnd2 a.u b.u|exact bnd2' a.u b.u|exact bndN a.u b.u)
    | ((with_reducible refine qhf ?_ b.u);(conv=>whnf);exact a.u)
    | (with_reducible exact qhf a.u b.u)) : G := f a b
theorem y5 {S : AState} {Q : (α : Type) -> (α -> AState) -> (α -> Nat) -> α -> Prop} (α : Type) (St : α -> AState) (μ : α -> Nat) (x : α) (h : Sub S (St x)) (k : ∀ y,Q α St μ y) : ∃ (α : Type) (St : α -> AState) (μ : α -> Nat) (x : α),Sub S (St x) /\ ∀ y,Q α St μ y := ⟨α,St,μ,x,h,k⟩
theorem b6 {α : Type} {p q : α -> Prop} (y : α) (a : p y) (b : q y) : ∃ y,p y /\ q y := ⟨y,a,b⟩
theorem rr {α β : Sort _} {a : α} {b : β} : a = a /\ b = b := ⟨rfl,rfl⟩
theorem zV {X : AV} {Y : List Blk} {Q : AV -> List Blk -> Prop} (h : Q X Y) : ∀ res B,(res = X /\ B = Y) -> Q res B := fun _ _ ⟨a,b⟩=>by subst a b;exact h
theorem u5 {G : Prop} (x : G := by
    first
    | exact Bool.noConfusion (Eq.trans (Eq.symm h) (show _ = true by with_reducible assumption))
    | exact Bool.noConfusion (Eq.trans (Eq.symm (show _ = false by with_reducible assumption)) h)
    | ((fail_if_success (have _x : @Eq Bool _ _ := h));contradiction)) : G := x
theorem ctN {G : Prop} (x : G := by
    first
    | exact Bool.noConfusion (Eq.trans (Eq.symm h) (show _ = true by with_reducible assumption))
    | exact Bool.noConfusion (Eq.trans (Eq.symm (show _ = false by with_reducible assumption)) h)
    | ((fail_if_success (have _x : @Eq Bool _ _ := h));with_reducible contradiction)) : G := x
theorem oV {f : FuncId} {fn : Func} {c : Code} {args : List AV} {X : AV} {R : Prop} (hf : Tryz.prog.funcs[f]? = some fn) (k : Bx R) (h1 : (fn.name == "runtime.NumGoroutine") = false := by exact rfl)
    (hb : fn.body = some c := by exact rfl) (hn : Nat.ble args.length fn.ntmps = true := by exact rfl)
    (h : Bx R -> yA Tryz.prog tau c ⟨fn.ntmps,fun t=>args.getD t .any,fun _=>none⟩ (bS tau fn false fun res B'=>frz B' X res) := by
      intro k
      (conv=>whnf)
      exact k.u) : CallsV Tryz.prog f args X := CallsV.of_awp yP aW hf h1 hb hn (h k)
theorem oF {f : FuncId} {fn : Func} {c : Code} {args : List AV} {fr : Bool} {Q : AV -> List Blk -> Prop} {R : Prop} (hf : Tryz.prog.funcs[f]? = some fn) (k : Bx R) (h1 : (fn.name == "runtime.NumGoroutine") = false := by exact rfl)
    (hb : fn.body = some c := by exact rfl) (hn : Nat.ble args.length fn.ntmps = true := by exact rfl)
    (h : Bx R -> yA Tryz.prog tau c ⟨fn.ntmps,fun t=>args.getD t .any,fun _=>none⟩ (bS tau fn fr Q) := by
      intro k
      (conv=>whnf)
      exact k.u) : CallsF Tryz.prog f args fr Q := CallsF.of_awp yP aW hf h1 hb hn (h k)
theorem oG {f : FuncId} {fn : Func} {c : Code} {args : List AV} {Bg : List Blk} {m : Nat} {Q : AV -> List Blk -> Prop} {R : Prop} (hf : Tryz.prog.funcs[f]? = some fn) (k : Bx R) (h1 : (fn.name == "runtime.NumGoroutine") = false := by exact rfl)
    (hb : fn.body = some c := by exact rfl) (hn : (Nat.ble args.length fn.ntmps && Nat.ble m Bg.length) = true := by exact rfl)
    (h : Bx R -> yA Tryz.prog tau c ⟨fn.ntmps,fun t=>(args.getD t .any).ren Bg.length 900000,dK Bg⟩ (gpost tau fn m Q) := by
      intro k
      (conv=>whnf)
      exact k.u) : CallsG Tryz.prog f args Bg m Q := CallsG.of_awp yP aW hf h1 hb hn (h k)
theorem vS {P : Program} {f : FuncId} {al : List AV} {X : AV} {R G : Prop} (c : CallsV P f al X) (k : Bx R) (h : CallsV P f al X -> Bx R -> G := by
    intro c k
    (with_reducible first|refine pcI ?_|show Exists _)
    refine ⟨_,c,rfl, ?_⟩
    (conv=>whnf)
    exact k.u) : G := h c k
theorem vP {P : Program} {f : FuncId} {al : List AV} {X : AV} {R G : Prop} (c : CallsV P f al X) (k : Bx R) (h : CallsV P f al X -> Bx R -> G := by
    intro c k
    with_reducible refine pcI ?_
    refine ⟨_,c,rfl, ?_⟩
    (conv=>whnf)
    exact k.u) : G := h c k
theorem vE {P : Program} {f : FuncId} {al : List AV} {X : AV} {R G : Prop} (c : CallsV P f al X) (k : Bx R) (h : CallsV P f al X -> Bx R -> G := by
    intro c k
    with_reducible show Exists _
    refine ⟨_,c,rfl, ?_⟩
    (conv=>whnf)
    exact k.u) : G := h c k
theorem gS {P : Program} {f : FuncId} {al : List AV} {B : List Blk} {n : Nat} {X : AV} {Y : List Blk} {R G : Prop} (c : CallsG P f al B n fun res B=>res = X /\ B = Y) (k : Bx R) (h : (CallsG P f al B n fun res B=>res = X /\ B = Y) -> Bx R -> G := by
    intro c k
    with_reducible refine iC ?_
    refine ⟨_,_,c,zV ?_⟩
    (conv=>whnf)
    exact k.u) : G := h c k
theorem eS {P : Program} {f : FuncId} {al : List AV} {b : Bool} {X : AV} {Y : List Blk} {R G : Prop} (c : CallsF P f al b fun res B=>res = X /\ B = Y) (k : Bx R) (h : (CallsF P f al b fun res B=>res = X /\ B = Y) -> Bx R -> G := by
    intro c k
    with_reducible refine fcI ?_
    refine ⟨_,_,c,rfl,zV ?_⟩
    (conv=>whnf)
    exact k.u) : G := h c k
abbrev KT := AX -> AState -> Prop
theorem st0 {R G : Prop} (k : Bx R) (f : Bx R -> G := by
    intro k
    first|((with_reducible first|refine Alt.l ?_|refine sp_T ?_|refine sp_F ?_|refine sp_T' ?_|refine sp_F' ?_);(conv=>whnf);exact k.u)|((with_reducible refine sp_dF ?_ ?_);decide;(conv=>whnf);exact k.u)|((with_reducible refine sp_dT ?_ ?_);decide;(conv=>whnf);exact k.u)|((with_reducible first|refine ss_d ?_|refine ss_d' ?_);exact k.u)|((with_reducible refine sp_eF ?_ ?_);decide;(conv=>whnf);exact k.u)|((with_reducible refine sp_eT ?_);(conv=>whnf);exact k.u)|((with_reducible first|refine ss_e ?_|refine ss_e' ?_|refine ss_n ?_|refine ss_n' ?_|refine ss_nb ?_|refine ss_nb' ?_|refine ss_b ?_|refine ss_b' ?_);exact k.u)|(refine ⟨(rfl : vA _ = true),rfl, ?_⟩;first|((conv=>whnf);exact k.u)|exact k.u)|((with_reducible show w8 _ _ _ _ _ _);(conv=>whnf);exact k.u)) : G := f k
theorem w5 {R G : Prop} (k : Bx R) (f : Bx R -> G := by
    intro k
    (conv=>whnf)
    exact k.u) : G := f k
theorem o4 {G : Prop} (x : G := by contradiction) : G := x
theorem yC {G : Prop} (x : G := by
    first|exact Bool.noConfusion (Eq.trans (Eq.symm h) (show _ = true by with_reducible assumption))|exact Bool.noConfusion (Eq.trans (Eq.symm (show _ = false by with_reducible assumption)) h)) : G := x
def inP (n lo hi : Int) : Bool := decide (lo <= n) && decide (n <= hi)
def kA (n : Int) : Bool := inP n 0 3
def wordP (w a : Int) : Bool := inP w 1 16 && inP a 0 (2 ^ w.toNat - 1)
theorem iN {w : Int} (h : inP w 1 16 = true) : IntKind.i64.wrap (1 * 2 ^ min w.toNat IntKind.i64.bits) = 2 ^ w.toNat := by
  have h' : w.toNat < 17 := by simp [inP] at h;omega
  revert h'
  generalize w.toNat = k
  intro h
  have : ∀ k < 17,IntKind.i64.wrap (1 * 2 ^ min k IntKind.i64.bits) = 2 ^ k := by decide
  exact this k h
theorem uw {w : Int} (h : inP w 1 16 = true) : IntKind.u64.wrap w = w := by
  simp [inP] at h
  have h' : w.toNat < 17 := by omega
  have e : w = (w.toNat : Int) := by omega
  rw [e]
  revert h'
  generalize w.toNat = k
  intro h
  have : ∀ k < 17,IntKind.u64.wrap ((k : Nat) : Int) = k := by decide
  exact this k h
theorem top1 {w : Int} (h : inP w 1 16 = true) : IntKind.i64.wrap (2 ^ w.toNat - 1) = 2 ^ w.toNat - 1 := by
  have h' : w.toNat < 17 := by simp [inP] at h;omega
  revert h'
  generalize w.toNat = k
  intro h
  have : ∀ k < 17,IntKind.i64.wrap ((2 : Int) ^ k - 1) = 2 ^ k - 1 := by decide
  exact this k h
theorem zA (n lo hi : Int) : CallsV Tryz.prog 26 [.dat (.i n),.dat (.i lo),.dat (.i hi)] (.dat (.bool (inP n lo hi))) := by
  refine oV Tryz.func26 ⟨?_⟩
  repeat' (first|((with_reducible refine fun (K1 : KT) hK=>?_);refine w5 ⟨?_⟩)|((with_reducible show K1 _ _);subst hK;conv=>whnf)|refine st0 ⟨?_⟩|((with_reducible refine SplS.mk (fun h=>?_) (fun h=>?_)) <;> first|exact o4|(subst h;conv=>whnf)|(conv=>whnf)))
  all_goals repeat clear hK K1
  all_goals simp [inP, *]
theorem qi6 (n : Int) : CallsV Tryz.prog 94 [.dat (.i n)] (.dat (.bool (kA n))) := by
  refine oV Tryz.func94 ⟨?_⟩
  repeat' (first|((with_reducible refine fun (K1 : KT) hK=>?_);refine w5 ⟨?_⟩)|((with_reducible show K1 _ _);subst hK;conv=>whnf)|refine st0 ⟨?_⟩|refine vP (zA ..) ⟨?_⟩|fail)
  all_goals repeat clear hK K1
  all_goals first|rfl|assumption|exact Bool.noConfusion (h.symm.trans hp)|(simp_all [];done)|grind []|(simp_all [];omega)
theorem dG (w a : Int) : CallsV Tryz.prog 57 [.dat (.i w),.dat (.i a)] (.dat (.bool (wordP w a))) := by
  refine oV Tryz.func57 ⟨?_⟩
  repeat' (first|((with_reducible refine fun (K1 : KT) hK=>?_);refine w5 ⟨?_⟩)|((with_reducible show K1 _ _);subst hK;conv=>whnf)|refine st0 ⟨?_⟩|((with_reducible refine SplS.mk (fun h=>?_) (fun h=>?_)) <;> first|exact o4|(conv=>whnf))|refine f2 ⟨?_⟩ ⟨?_⟩|refine vP (zA ..) ⟨?_⟩|fail)
  all_goals repeat clear hK K1
  . have h1 := h
    simp only [wordP,h1,iN h1,top1 h1,Bool.true_and]
  . have h1 := h
    simp [inP] at h1;omega
  . simp only [wordP,h,Bool.false_and]
theorem qlx (w a : Int) : CallsV Tryz.prog 86 [.dat (.i w),.dat (.i a)] (.dat (.bool (inP w 2 8 && inP a 1 40))) := by
  refine oV Tryz.func86 ⟨?_⟩
  repeat' (first|((with_reducible refine fun (K1 : KT) hK=>?_);refine w5 ⟨?_⟩)|((with_reducible show K1 _ _);subst hK;conv=>whnf)|refine st0 ⟨?_⟩|((with_reducible refine SplS.mk (fun h=>?_) (fun h=>?_)) <;> first|exact o4|(subst h;conv=>whnf)|(conv=>whnf)))
  all_goals repeat clear hK K1
  all_goals first|rfl|assumption|exact Bool.noConfusion (h.symm.trans hp)|(simp_all [inP];done)|grind [inP]|(simp_all [inP];omega)
theorem qL (w : Int) : CallsV Tryz.prog 118 [.dat (.i w)] (.dat (.bool (inP w 1 16))) := by
  refine oV Tryz.func118 ⟨?_⟩
  repeat' (first|((with_reducible refine fun (K1 : KT) hK=>?_);refine w5 ⟨?_⟩)|((with_reducible show K1 _ _);subst hK;conv=>whnf)|refine st0 ⟨?_⟩|((with_reducible refine SplS.mk (fun h=>?_) (fun h=>?_)) <;> first|exact o4|(subst h;conv=>whnf)|(conv=>whnf)))
  all_goals repeat clear hK K1
  all_goals first|rfl|assumption|exact Bool.noConfusion (h.symm.trans hp)|(simp_all [inP];done)|grind [inP]|(simp_all [inP];omega)
theorem qmd (w : Int) : CallsV Tryz.prog 120 [.dat (.i w)] (.dat (.bool (inP w 3 16))) := by
  refine oV Tryz.func120 ⟨?_⟩
  repeat' (first|((with_reducible refine fun (K1 : KT) hK=>?_);refine w5 ⟨?_⟩)|((with_reducible show K1 _ _);subst hK;conv=>whnf)|refine st0 ⟨?_⟩|((with_reducible refine SplS.mk (fun h=>?_) (fun h=>?_)) <;> first|exact o4|(subst h;conv=>whnf)|(conv=>whnf)))
  all_goals repeat clear hK K1
  all_goals first|rfl|assumption|exact Bool.noConfusion (h.symm.trans hp)|(simp_all [inP];done)|grind [inP]|(simp_all [inP];omega)
theorem i_isReg (w : Int) : CallsV Tryz.prog 119 [.dat (.i w)] (.dat (.bool (kA w))) := by
  refine oV Tryz.func119 ⟨?_⟩
  repeat' (first|((with_reducible refine fun (K1 : KT) hK=>?_);refine w5 ⟨?_⟩)|((with_reducible show K1 _ _);subst hK;conv=>whnf)|refine st0 ⟨?_⟩|((with_reducible refine SplS.mk (fun h=>?_) (fun h=>?_)) <;> first|exact o4|(subst h;conv=>whnf)|(conv=>whnf)))
  all_goals repeat clear hK K1
  all_goals first|rfl|assumption|exact Bool.noConfusion (h.symm.trans hp)|(simp_all [inP,kA];done)|grind [inP,kA]|(simp_all [inP,kA];omega)
theorem bE (w a : Int) : CallsV Tryz.prog 87 [.dat (.i w),.dat (.i a)] (.dat (.bool (wordP w a))) := by
  refine oV Tryz.func87 ⟨?_⟩
  repeat' (first|((with_reducible refine fun (K1 : KT) hK=>?_);refine w5 ⟨?_⟩)|((with_reducible show K1 _ _);subst hK;conv=>whnf)|refine st0 ⟨?_⟩|((with_reducible refine SplS.mk (fun h=>?_) (fun h=>?_)) <;> first|exact o4|(subst h;conv=>whnf)|(conv=>whnf))|((with_reducible refine SplS.mk (fun h=>?_) (fun h=>?_)) <;> first|exact o4|(conv=>whnf))|refine f2 ⟨?_⟩ ⟨?_⟩|refine vP (qL ..) ⟨?_⟩|fail)
  all_goals repeat clear hK K1
  . rename_i h1
    have e := uw h1
    have e2 := iN h1
    have ha : 0 <= a := h
    rw [e,e2]
    simp only [wordP,h1,Bool.true_and]
    simp only [inP,decide_eq_true ha,Bool.true_and]
    exact congrArg Dat.bool (decide_eq_decide.2 omG)
  . rename_i h1
    rw [uw h1]
    simp [inP] at h1;omega
  . have ha : ¬ 0 <= a := h
    simp [wordP,inP,ha]
  . simp only [wordP,h,Bool.false_and]
def j5 (i : V.Ins) (w size : Int) : Bool :=
  if i.op = 1 then kA i.a && wordP w i.b && decide (i.c = 0)
  else if i.op = 2 \/ i.op = 7 \/ i.op = 8 then kA i.a && kA i.b && decide (i.c = 0)
  else if i.op = 3 then kA i.a && kA i.b && inP i.c 3 16
  else if i.op = 4 \/ i.op = 5 \/ i.op = 6 \/ i.op = 13 then kA i.a && decide (i.b = 0) && decide (i.c = 0)
  else if i.op = 9 \/ i.op = 11 then decide (i.a = 0) && inP i.b 0 size && decide (i.c = 0)
  else if i.op = 10 then kA i.a && inP i.b 0 size && decide (i.c = 0)
  else if i.op = 12 \/ i.op = 14 then decide (i.a = 0) && decide (i.b = 0) && decide (i.c = 0)
  else false
theorem qi7 (op a b c w size : Int) : CallsV Tryz.prog 58 [.agg [.dat (.i op),.dat (.i a),.dat (.i b),.dat (.i c)],.dat (.i w),.dat (.i size)] (.dat (.bool (j5 ⟨op,a,b,c⟩ w size))) := by
  refine oV Tryz.func58 ⟨?_⟩
  repeat' (first|((with_reducible refine fun (K1 : KT) hK=>?_);refine w5 ⟨?_⟩)|((with_reducible show K1 _ _);subst hK;conv=>whnf)|refine st0 ⟨?_⟩|((with_reducible refine SplS.mk (fun h=>?_) (fun h=>?_)) <;> first|exact o4|(subst h;conv=>whnf)|(conv=>whnf))|refine vP (zA ..) ⟨?_⟩|refine vP (qi6 ..) ⟨?_⟩|refine vP (dG ..) ⟨?_⟩|fail)
  all_goals repeat clear hK K1
  all_goals first|(simp [j5, *];done)|(simp [j5, *];rfl)
theorem i_insOk (op a b c w size : Int) : CallsV Tryz.prog 88 [.agg [.dat (.i op),.dat (.i a),.dat (.i b),.dat (.i c)],.dat (.i w),.dat (.i size)] (.dat (.bool (j5 ⟨op,a,b,c⟩ w size))) := by
  refine oV Tryz.func88 ⟨?_⟩
  repeat' (first|((with_reducible refine fun (K1 : KT) hK=>?_);refine w5 ⟨?_⟩)|((with_reducible show K1 _ _);subst hK;conv=>whnf)|refine st0 ⟨?_⟩|((with_reducible refine SplS.mk (fun h=>?_) (fun h=>?_)) <;> first|exact o4|((fail_if_success (have _x : @Eq Bool _ _ := h));subst h;conv=>whnf)|(conv=>whnf))|refine vP (i_isReg ..) ⟨?_⟩|refine vP (qmd ..) ⟨?_⟩|refine vP (bE ..) ⟨?_⟩|fail)
  all_goals repeat clear hK K1
  all_goals first|(simp [j5,inP, *];done)|(simp [j5, *];rfl)
def i4 (p : V.Prog) : Bool :=
  inP p.w 2 8 && inP p.mem 1 6 && wordP p.w p.mem && inP p.inn 0 3 && inP p.code.length 1 40 && p.code.all fun i=>j5 i p.w p.code.length
theorem kN (w mem inn : Int) (code : List V.Ins) : CallsV Tryz.prog 25 [.agg [.dat (.i w),.dat (.i mem),.dat (.i inn),.dat (.seq .inss code)]] (.dat (.bool (i4 ⟨w,mem,inn,code⟩))) := by
  refine oV Tryz.func25 ⟨?_⟩
  repeat' (first|((with_reducible refine fun (K1 : KT) hK=>?_);refine w5 ⟨?_⟩)|((with_reducible show K1 _ _);subst hK;conv=>whnf)|(with_reducible exact rfl)|refine st0 ⟨?_⟩|((with_reducible refine SplS.mk (fun h=>?_) (fun h=>?_)) <;> first|exact o4|(subst h;conv=>whnf)|(conv=>whnf))|refine f2 ⟨?_⟩ ⟨?_⟩|(refine y5 ({k : Nat // (code.take k).all (fun i=>j5 i w code.length) = true}) (fun ⟨k,hall⟩=>x5 Tryz.f25.ntmps [(1,.ptr 1 0),(37,.dat (.seq .inss code)),(38,.dat (.i code.length)),(39,.dat (.i k))] [(1,.box [.dat (.i w),.dat (.i mem),.dat (.i inn),.dat (.seq .inss code)])]) (fun ⟨k,hall⟩=>code.length - k) ⟨0,rfl⟩ (SubP.sub (σ := [(1,some 1)]) ⟨⟨rfl,rfl,rfl⟩,⟨rr,o0 ?_,o0 ?_,o0 ?_,trivial⟩,⟨⟨j0 ?_,j0 ?_,j0 ?_,j0 ?_,trivial⟩,trivial⟩⟩) (fun ⟨k,hall⟩=>?_);rotate_right;conv=>whnf)|(refine b6 ⟨k + 1, ?_⟩ ?_ (SubP.sub (σ := [(1,some 1)]) ⟨⟨rfl,rfl,rfl⟩,⟨rr,o0 ?_,o0 ?_,o0 ?_,trivial⟩,⟨⟨j0 ?_,j0 ?_,j0 ?_,j0 ?_,trivial⟩,trivial⟩⟩))|refine vP (zA ..) ⟨?_⟩|refine vP (dG ..) ⟨?_⟩|refine vP (qi7 ..) ⟨?_⟩|(intro h;conv=>whnf))
  all_goals repeat clear hK K1
  all_goals first|rfl|assumption|omega|(dsimp only;omega)|exact congrArg (Dat.int .i64) (wrap_succ (by assumption) (by assumption)).symm|(simp [i4, *];done)|(rw [lH K.inss.dflt (by assumption),hall];exact h)|(simp only [i4];rw [gK (f := fun i=>j5 i w code.length) (by assumption) h,Bool.and_false])|(simp only [i4];rw [tM h hall];simp [*])
theorem wW (w mem inn : Int) (code : List V.Ins) : CallsV Tryz.prog 49 [.agg [.dat (.i w),.dat (.i mem),.dat (.i inn),.dat (.seq .inss code)]] (.dat (.bool (i4 ⟨w,mem,inn,code⟩))) := by
  refine oV Tryz.func49 ⟨?_⟩
  repeat' (first|((with_reducible refine fun (K1 : KT) hK=>?_);refine w5 ⟨?_⟩)|((with_reducible show K1 _ _);subst hK;conv=>whnf)|(with_reducible exact rfl)|refine st0 ⟨?_⟩|((with_reducible refine SplS.mk (fun h=>?_) (fun h=>?_)) <;> first|exact o4|(subst h;conv=>whnf)|(conv=>whnf))|refine f2 ⟨?_⟩ ⟨?_⟩|(refine y5 ({k : Nat // (code.take k).all (fun i=>j5 i w code.length) = true}) (fun ⟨k,hall⟩=>x5 Tryz.f49.ntmps [(1,.ptr 1 0),(39,.dat (.seq .inss code)),(40,.dat (.i code.length)),(41,.dat (.i k))] [(1,.box [.dat (.i w),.dat (.i mem),.dat (.i inn),.dat (.seq .inss code)])]) (fun ⟨k,hall⟩=>code.length - k) ⟨0,rfl⟩ (SubP.sub (σ := [(1,some 1)]) ⟨⟨rfl,rfl,rfl⟩,⟨rr,o0 ?_,o0 ?_,o0 ?_,trivial⟩,⟨⟨j0 ?_,j0 ?_,j0 ?_,j0 ?_,trivial⟩,trivial⟩⟩) (fun ⟨k,hall⟩=>?_);rotate_right;conv=>whnf)|(refine b6 ⟨k + 1, ?_⟩ ?_ (SubP.sub (σ := [(1,some 1)]) ⟨⟨rfl,rfl,rfl⟩,⟨rr,o0 ?_,o0 ?_,o0 ?_,trivial⟩,⟨⟨j0 ?_,j0 ?_,j0 ?_,j0 ?_,trivial⟩,trivial⟩⟩))|refine vP (qlx ..) ⟨?_⟩|refine vP (bE ..) ⟨?_⟩|refine vP (i_insOk ..) ⟨?_⟩|(intro h;conv=>whnf))
  all_goals repeat clear hK K1
  all_goals first|rfl|assumption|omega|(dsimp only;omega)|exact congrArg (Dat.int .i64) (wrap_succ (by assumption) (by assumption)).symm|(simp [i4, *];done)|(rw [lH K.inss.dflt (by assumption),hall];exact h)|(simp only [i4];rw [gK (f := fun i=>j5 i w code.length) (by assumption) h,Bool.and_false])|(simp only [i4];rw [tM h hall];clear hall h;simp_all [inP] <;> omega)|(simp_all [i4,inP];omega)
theorem set_mid {α : Type} {a : List α} {k : Nat} (d z : α) (h : (k : Int) < a.length) : (a.take k ++ List.replicate (a.length - k) z).set k (a.getD k d) = a.take (k + 1) ++ List.replicate (a.length - (k + 1)) z := by
  have h' : k < a.length := by omega
  apply List.ext_getElem?
  intro i
  simp only [List.getElem?_set,List.getElem?_append,List.length_take,List.getElem?_take,List.getElem?_replicate,List.length_append,List.length_replicate,List.getD_eq_getElem?_getD]
  rcases Nat.lt_trichotomy i k with h1|h1|h1
  . simp [show ¬ k = i from by omega,show i < min k a.length from by omega,show i < min (k + 1) a.length from by omega,show i < k from h1,show i < k + 1 from by omega]
  . subst h1
    simp [h',show i < min (i + 1) a.length from by omega,show i < min i a.length + (a.length - i) from by omega]
  . simp [show ¬ k = i from by omega,show ¬ i < min k a.length from by omega,show ¬ i < min (k + 1) a.length from by omega]
    have e1 : min k a.length = k := by omega
    have e2 : min (k + 1) a.length = k + 1 := by omega
    simp only [e1,e2]
    by_cases h2 : i - k < a.length - k
    . simp [h2,show i - (k + 1) < a.length - (k + 1) from by omega]
    . simp [h2,show ¬ i - (k + 1) < a.length - (k + 1) from by omega]
theorem qig {α : Type} {a : List α} {k : Nat} {z : α} (h : ¬ (k : Int) < a.length) : a.take k ++ List.replicate (a.length - k) z = a := by
  rw [List.take_of_length_le omG,show a.length - k = 0 from by omega];simp
set_option maxRecDepth 100000 in
theorem ql9 (w : Int) (hw : inP w 1 16 = true) : CallsV Tryz.prog 252 [.dat (.i w)] (.dat (.i (2 ^ w.toNat - 1))) := by
  refine oV Tryz.func252 ⟨?_⟩
  repeat' (first|((with_reducible refine fun (K1 : KT) hK=>?_);refine w5 ⟨?_⟩)|((with_reducible show K1 _ _);subst hK;conv=>whnf)|refine st0 ⟨?_⟩|refine f2 ⟨?_⟩ ⟨?_⟩|fail)
  all_goals repeat clear hK K1
  . rw [uw hw,iN hw,top1 hw]
  . rw [uw hw];simp [inP] at hw;omega
theorem progP_w {p : V.Prog} (h : i4 p = true) : inP p.w 1 16 = true := by
  simp [i4,inP] at h
  simp [inP];omega
end Vg
