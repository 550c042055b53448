/- The abstract domain: data as trees, abstract values, abstract blocks, abstract states. No condition. -/
import Derived.Laws.Append
import Derived.Laws.AppendOwn
import Derived.Laws.World
import Derived.Laws.Sem
import Derived.Laws.Cells
import Derived.Calls
import Derived.Orders
import Derived.Tactics
namespace Vg
open Go

/-! ### the program's data -/
namespace V
structure Ins where
  op : Int
  a : Int
  b : Int
  c : Int
  deriving Inhabited, DecidableEq
structure Prog where
  w : Int
  mem : Int
  inn : Int
  code : List Ins
  deriving Inhabited, DecidableEq
structure Fact where
  kind : Int
  a : Int
  b : Int
  n : Int
  deriving Inhabited, DecidableEq
structure State where
  pc : Int
  regs : List Int
  mem : List Int
  stack : List Int
  inn : Int
  out : List Int
  code : Int
  steps : Int
  deriving Inhabited, DecidableEq
end V

/-- the kinds of slices -/
inductive K where
  | ints | bools | strs | intss | inss | progs | facts | states | bytes
  deriving DecidableEq

@[reducible] def K.T : K → Type
  | .ints => Int
  | .bools => Bool
  | .strs => ByteArray
  | .intss => List Int
  | .inss => V.Ins
  | .progs => V.Prog
  | .facts => V.Fact
  | .states => V.State
  | .bytes => Int

def K.dflt : (κ : K) → κ.T
  | .ints => (0 : Int)
  | .bools => false
  | .strs => ByteArray.empty
  | .intss => ([] : List Int)
  | .inss => (⟨0, 0, 0, 0⟩ : V.Ins)
  | .progs => (⟨0, 0, 0, []⟩ : V.Prog)
  | .facts => (⟨0, 0, 0, 0⟩ : V.Fact)
  | .states => (⟨0, [], [], [], 0, [], 0, 0⟩ : V.State)
  | .bytes => (0 : Int)

/-- cells of an element -/
def K.sz : K → Nat
  | .ints => 1 | .bools => 1 | .strs => 1 | .intss => 1 | .inss => 4 | .progs => 4 | .facts => 4 | .states => 8 | .bytes => 1

/-- elements that lean on no other memory -/
def K.flat : K → Bool
  | .ints => true | .bools => true | .strs => true | .inss => true | .facts => true | .bytes => true
  | _ => false

/-- a datum that fills one cell -/
inductive Dat where
  | int (k : IntKind) (n : Int)
  | bool (b : Bool)
  | str (s : ByteArray)
  | err (b : Bool)
  | seq (κ : K) (l : List κ.T)

abbrev Dat.i (n : Int) : Dat := .int .i64 n

/-- the cells of an element -/
def K.enc : (κ : K) → κ.T → List Dat
  | .ints, n => [.int .i64 n]
  | .bools, b => [.bool b]
  | .strs, s => [.str s]
  | .intss, l => [.seq .ints l]
  | .inss, x => [.int .i64 x.op, .int .i64 x.a, .int .i64 x.b, .int .i64 x.c]
  | .progs, x => [.int .i64 x.w, .int .i64 x.mem, .int .i64 x.inn, .seq .inss x.code]
  | .facts, x => [.int .i64 x.kind, .int .i64 x.a, .int .i64 x.b, .int .i64 x.n]
  | .bytes, n => [.int .u8 n]
  | .states, x => [.int .i64 x.pc, .seq .ints x.regs, .seq .ints x.mem, .seq .ints x.stack, .int .i64 x.inn, .seq .ints x.out, .int .i64 x.code, .int .i64 x.steps]

/-- an element out of its cells -/
def K.dec : (κ : K) → List Dat → Option κ.T
  | .ints, [.int .i64 n] => some n
  | .bools, [.bool b] => some b
  | .bytes, [.int .u8 n] => some n
  | .strs, [.str s] => some s
  | .intss, [.seq .ints l] => some l
  | .inss, [.int .i64 a, .int .i64 b, .int .i64 c, .int .i64 d] => some ⟨a, b, c, d⟩
  | .progs, [.int .i64 a, .int .i64 b, .int .i64 c, .seq .inss d] => some ⟨a, b, c, d⟩
  | .facts, [.int .i64 a, .int .i64 b, .int .i64 c, .int .i64 d] => some ⟨a, b, c, d⟩
  | .states, [.int .i64 a, .seq .ints b, .seq .ints c, .seq .ints d, .int .i64 e, .seq .ints f, .int .i64 g, .int .i64 h] => some ⟨a, b, c, d, e, f, g, h⟩
  | _, _ => none

theorem K.enc_length (κ : K) (x : κ.T) : (κ.enc x).length = κ.sz := by
  cases κ <;> rfl

theorem K.dec_enc {κ : K} {cs : List Dat} {x : κ.T} (h : κ.dec cs = some x) : κ.enc x = cs := by
  unfold K.dec at h
  split at h <;> first | (cases h; rfl) | (cases h)

/-- another cell in an element -/
def K.put1 : (κ : K) → κ.T → Nat → Dat → Option κ.T
  | .inss, x, j, .int .i64 n => match j with
    | 0 => some ⟨n, x.a, x.b, x.c⟩
    | 1 => some ⟨x.op, n, x.b, x.c⟩
    | 2 => some ⟨x.op, x.a, n, x.c⟩
    | 3 => some ⟨x.op, x.a, x.b, n⟩
    | _ => none
  | .facts, x, j, .int .i64 n => match j with
    | 0 => some ⟨n, x.a, x.b, x.n⟩
    | 1 => some ⟨x.kind, n, x.b, x.n⟩
    | 2 => some ⟨x.kind, x.a, n, x.n⟩
    | 3 => some ⟨x.kind, x.a, x.b, n⟩
    | _ => none
  | .progs, x, j, .int .i64 n => match j with
    | 0 => some ⟨n, x.mem, x.inn, x.code⟩
    | 1 => some ⟨x.w, n, x.inn, x.code⟩
    | 2 => some ⟨x.w, x.mem, n, x.code⟩
    | _ => none
  | .states, x, j, .int .i64 n => match j with
    | 0 => some ⟨n, x.regs, x.mem, x.stack, x.inn, x.out, x.code, x.steps⟩
    | 4 => some ⟨x.pc, x.regs, x.mem, x.stack, n, x.out, x.code, x.steps⟩
    | 6 => some ⟨x.pc, x.regs, x.mem, x.stack, x.inn, x.out, n, x.steps⟩
    | 7 => some ⟨x.pc, x.regs, x.mem, x.stack, x.inn, x.out, x.code, n⟩
    | _ => none
  | _, _, _, _ => none
theorem K.put1_enc {κ : K} {x y : κ.T} {j : Nat} {d : Dat} (h : κ.put1 x j d = some y) : κ.enc y = (κ.enc x).take j ++ [d] ++ (κ.enc x).drop (j + 1) := by
  unfold K.put1 at h
  split at h
  · split at h <;> first | (cases h; rfl) | (cases h)
  · split at h <;> first | (cases h; rfl) | (cases h)
  · split at h <;> first | (cases h; rfl) | (cases h)
  · split at h <;> first | (cases h; rfl) | (cases h)
  · cases h

theorem K.sz_pos (κ : K) : 0 < κ.sz := by cases κ <;> decide

/-- another list in a cell of an element -/
def K.putS : (κ : K) → κ.T → Nat → (κ' : K) → List κ'.T → Option κ.T
  | .intss, _, 0, .ints, l => some l
  | .progs, x, 3, .inss, l => some ⟨x.w, x.mem, x.inn, l⟩
  | .states, x, 1, .ints, l => some ⟨x.pc, l, x.mem, x.stack, x.inn, x.out, x.code, x.steps⟩
  | .states, x, 2, .ints, l => some ⟨x.pc, x.regs, l, x.stack, x.inn, x.out, x.code, x.steps⟩
  | .states, x, 3, .ints, l => some ⟨x.pc, x.regs, x.mem, l, x.inn, x.out, x.code, x.steps⟩
  | .states, x, 5, .ints, l => some ⟨x.pc, x.regs, x.mem, x.stack, x.inn, l, x.code, x.steps⟩
  | _, _, _, _, _ => none
theorem K.putS_enc {κ κ' : K} {x y : κ.T} {j : Nat} {l : List κ'.T} (h : κ.putS x j κ' l = some y) : κ.enc y = (κ.enc x).take j ++ [.seq κ' l] ++ (κ.enc x).drop (j + 1) := by
  unfold K.putS at h
  split at h <;> first | (cases h; rfl) | (cases h)

/-- cell j of element k -/
def cellOf (κ : K) (l : List κ.T) (k j : Nat) : Dat := (κ.enc (l.getD k κ.dflt)).getD j (.bool false)

/-- abstract values -/
inductive AV where
  | any
  | cell
  | dat (d : Dat)
  | nils
  | row (i : Nat)
  | ptr (i off : Nat)
  | eptr (κ : K) (x : κ.T) (j : Nat)
  | rptr (i k j sz : Nat)
  | agg (l : List AV)
  | tup (l : List AV)
  | fn (f : Nat) (caps : List AV)

/-- abstract blocks -/
inductive Blk where
  | box (cells : List AV)
  | row (T : Nat) (κ : K) (l : List κ.T) (shared : Bool)
  | tree (T : Nat) (κ : K) (l : List κ.T)

structure AState where
  n : Nat
  tm : Nat → AV
  blk : Nat → Option Blk

/-- what is known of a type -/
inductive TD where
  | int (k : IntKind)
  | bool
  | str
  | flds (l : List (Nat × Nat))
  | slice (elem : Nat) (κ : K)
  | ptr (elem : Nat)
  | iface
  | other

structure TyI where
  agg : Bool
  size : Nat
  bytes : Nat
  zero : List Value
  zeroD : List Dat
  desc : TD

end Vg
