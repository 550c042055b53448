/- The abstract execution: what must hold of an abstract state before a piece of code, as a proposition. No condition. -/
import Derived.Laws.BytesArg
import Derived.Test.YtfhkodimclmcdaaGreatDoorEnv
namespace Vg
open Go
abbrev Tys := Nat -> Option TyI
def xF : Value -> AV
 | .int k n => .dat (.int k n)
 | .bool b => .dat (.bool b)
 | .string s => .dat (.str s)
 | .nilIface => .dat (.err false)
 | .slice none 0 0 => .nils
 | .pointer none => .nilp
 | .pointer (some _) => .cell
 | .map none => .nilm
 | .map (some _) => .cell
 | .nilFunc => .dat .nof
 | _ => .any
def bY : Value -> AV
 | .agg cs => .agg (cs.toList.map xF)
 | v=>xF v
def ev (S : AState) : Operand -> AV
 | .tmp t=>S.tm t
 | .const v=>bY v
 | .global _ => .cell
 | .func f => .fn f []
/-! ### values in head form -/
def cS (d : Dat) (K : Dat -> Prop) : Prop :=
 match d with
 | .int k n=>K (.int k n)
 | .bool b=>K (.bool b)
 | .str s=>K (.str s)
 | .err b=>K (.err b)
 | .nof=>K .nof
 | .clo g l=>K (.clo g l)
 | .seq κ l=>K (.seq κ l)
def forceC (v : AV) (K : AV -> Prop) : Prop :=
 match v with
 | .dat d=>cS d fun d=>K (.dat d)
 | .nils=>K .nils
 | .nilm=>K .nilm
 | .nilp=>K .nilp
 | .mp i=>K (.mp i)
 | .row i=>K (.row i)
 | .ptr i o=>K (.ptr i o)
 | .eptr κ x j=>K (.eptr κ x j)
 | .rptr i k j s=>K (.rptr i k j s)
 | .cell=>K .cell
 | .any=>K .any
 | .agg l=>K (.agg l)
 | .tup l=>K (.tup l)
 | .fn f l=>K (.fn f l)
def forceL : List AV -> (List AV -> Prop) -> Prop
 | [],K=>K []
 | a :: l,K=>forceC a fun a=>forceL l fun l=>K (a :: l)
def forceM (v : AV) (K : AV -> Prop) : Prop :=
 match v with
 | .agg l=>forceL l fun l=>K (.agg l)
 | .fn f l=>forceL l fun l=>K (.fn f l)
 | .tup l=>K (.tup l)
 | .dat d=>cS d fun d=>K (.dat d)
 | .nils=>K .nils
 | .nilm=>K .nilm
 | .nilp=>K .nilp
 | .mp i=>K (.mp i)
 | .row i=>K (.row i)
 | .ptr i o=>K (.ptr i o)
 | .eptr κ x j=>K (.eptr κ x j)
 | .rptr i k j s=>K (.rptr i k j s)
 | .cell=>K .cell
 | .any=>K .any
def forceLM : List AV -> (List AV -> Prop) -> Prop
 | [],K=>K []
 | a :: l,K=>forceM a fun a=>forceLM l fun l=>K (a :: l)
def force (v : AV) (K : AV -> Prop) : Prop :=
 match v with
 | .tup l=>forceLM l fun l=>K (.tup l)
 | .agg l=>forceL l fun l=>K (.agg l)
 | .fn f l=>forceL l fun l=>K (.fn f l)
 | .dat d=>cS d fun d=>K (.dat d)
 | .nils=>K .nils
 | .nilm=>K .nilm
 | .nilp=>K .nilp
 | .mp i=>K (.mp i)
 | .row i=>K (.row i)
 | .ptr i o=>K (.ptr i o)
 | .eptr κ x j=>K (.eptr κ x j)
 | .rptr i k j s=>K (.rptr i k j s)
 | .cell=>K .cell
 | .any=>K .any
theorem forceD_eq (d : Dat) (K : Dat -> Prop) : cS d K = K d := by cases d <;> rfl
theorem forceC_eq (v : AV) (K : AV -> Prop) : forceC v K = K v := by cases v <;> first|rfl|simp [forceC,forceD_eq]
theorem forceL_eq (l : List AV) : ∀ (K : List AV -> Prop),forceL l K = K l := by
 induction l with
 | nil=>intro K;rfl
 | cons a l ih=>intro K;simp [forceL,forceC_eq,ih]
theorem forceM_eq (v : AV) (K : AV -> Prop) : forceM v K = K v := by cases v <;> first|rfl|simp [forceM,forceD_eq,forceL_eq]
theorem forceLM_eq (l : List AV) : ∀ (K : List AV -> Prop),forceLM l K = K l := by
 induction l with
 | nil=>intro K;rfl
 | cons a l ih=>intro K;simp [forceLM,forceM_eq,ih]
theorem gE (v : AV) (K : AV -> Prop) : force v K = K v := by cases v <;> first|rfl|simp [force,forceD_eq,forceL_eq,forceLM_eq]
/-! ### a value that any memory bears -/
def Dat.flat : Dat -> Bool
 | .err _=>false
 | .seq _ _=>false
 | .nof=>false
 | .clo _ _=>false
 | _=>true
def AV.flatC : AV -> Bool
 | .dat d=>d.flat
 | .nils=>true
 | .nilm=>true
 | .nilp=>true
 | .cell=>true
 | .any=>true
 | _=>false
def AV.flatM : AV -> Bool
 | .agg l=>l.all AV.flatC
 | v=>v.flatC
def AV.flat : AV -> Bool
 | .tup l=>l.all AV.flatM
 | v=>v.flatM
def AV.noidC : AV -> Bool
 | .dat _=>true
 | .nils=>true
 | .nilm=>true
 | .nilp=>true
 | .cell=>true
 | .any=>true
 | .eptr _ _ _=>true
 | _=>false
def AV.noidM : AV -> Bool
 | .agg l=>l.all AV.noidC
 | v=>v.noidC
def AV.noid : AV -> Bool
 | .tup l=>l.all AV.noidM
 | v=>v.noidM
/-! ### data out of values, nothing given up (a borrowed row says so) -/
def fP (blk : Nat -> Option Blk) (z : Dat) (v : AV) : Option (Dat × Bool) :=
 match v with
 | .dat d=>some (d,false)
 | .nils=>match z with
  | .seq κ _=>some (.seq κ [],false)
  | _=>none
 | .row i=>match blk i with
  | some (.row _ κ l sh)=>some (.seq κ l,!sh)
  | some (.tree _ κ l)=>some (.seq κ l,true)
  | _=>none
 | _=>none
def sI (blk : Nat -> Option Blk) : List Dat -> List AV -> Option (List AV × Bool)
 | [],[]=>some ([],false)
 | z :: zs,v :: vs=>match fP blk z v with
  | some (d,b)=>match sI blk zs vs with
   | some (ds,c)=>some (.dat d :: ds,b || c)
   | none=>none
  | none=>none
 | _,_=>none
def argP (τ : Tys) (blk : Nat -> Option Blk) (T : Nat) (v : AV) : Option (AV × Bool) :=
 match τ T with
 | none=>none
 | some i=>match i.agg with
  | true=>match v with
   | .agg l=>match sI blk i.zeroD l with
    | some (ds,b)=>some (.agg ds,b)
    | none=>none
   | _=>none
  | false=>match i.zeroD with
   | [z]=>match fP blk z v with
    | some (d,b)=>some (.dat d,b)
    | none=>none
   | []=>match v with
    | .nilm=>some (.nilm,false)
    | _=>none
   | _=>none
def pD (τ : Tys) (blk : Nat -> Option Blk) : List Nat -> List AV -> Option (List AV × Bool)
 | [],[]=>some ([],false)
 | T :: Ts,v :: vs=>match argP τ blk T v with
  | some (a,b)=>match pD τ blk Ts vs with
   | some (as,c)=>some (a :: as,b || c)
   | none=>none
  | none=>none
 | _,_=>none
/-! ### contracts -/
def AV.renC (n base : Nat) : AV -> AV
 | .row j=>match Nat.blt j n with|true => .row (base + j)|false => .cell
 | .mp j=>match Nat.blt j n with|true => .mp (base + j)|false => .cell
 | .nilm => .nilm
 | .nilp => .nilp
 | .ptr j o=>match Nat.blt j n with|true => .ptr (base + j) o|false => .cell
 | .rptr j k o sz=>match Nat.blt j n with|true => .rptr (base + j) k o sz|false => .cell
 | .dat d => .dat d
 | .nils => .nils
 | .eptr κ x j => .eptr κ x j
 | .cell => .cell
 | _ => .any
def AV.renM (n base : Nat) : AV -> AV
 | .agg l => .agg (l.map (AV.renC n base))
 | .fn f l => .fn f (l.map (AV.renC n base))
 | a=>a.renC n base
def AV.ren (n base : Nat) : AV -> AV
 | .tup l => .tup (l.map (AV.renM n base))
 | a=>a.renM n base
def Blk.ren (n base : Nat) : Blk -> Blk
 | .box cells => .box (cells.map (AV.renC n base))
 | b=>b
def gO (Im : Nat -> Nat -> Prop) : Bool -> Nat -> Nat -> Prop
 | true=>fun _ _=>False
 | false=>Im
def CallsF (P : Program) (f : FuncId) (args : List AV) (fr : Bool) (R : AV -> List Blk -> Prop) : Prop :=
 (∃ fn,P.funcs[f]? = some fn /\ (fn.name == "runtime.NumGoroutine") = false /\ fn.body.isNone = false) /\
 ∀ (w : World) (Im : Nat -> Nat -> Prop) (vs : Array Value),vs.size = args.length ->
  (∀ j a,args[j]? = some a -> AVR (fun _=>none) w.heap Im a (vs.getD j undef)) -> ImOk w.heap Im ->
  Calls P f vs w fun e w'=>∃ v res B' ρ' Im',e = .returned v /\ R res B' /\ AVR ρ' w'.heap Im' res v /\ Env (fun j=>B'[j]?) ρ' Im' w'.heap /\
   Ext w .nil (gO Im fr) (fun j=>B'[j]?) ρ' Im' w'
def CallsV (P : Program) (f : FuncId) (args : List AV) (X : AV) : Prop := CallsF P f args X.flat fun res B'=>res = X /\ B' = []
/-! ### operations -/
def tP : Dat -> AV
 | .seq _ _ => .cell
 | d => .dat d
def wG (i : TyI) (blk : Nat -> Option Blk) (p : AV) (K : AV -> Prop) : Prop :=
 match p with
 | .ptr id off=>match blk id with
  | some (.box cells)=>match i.agg with
   | true=>match Nat.ble (off + i.size) cells.length with
    | true=>K (.agg ((cells.drop off).take i.size))
    | false=>False
   | false=>match cells[off]? with
    | some c=>K c
    | none=>False
  | _=>False
 | .eptr κ x j=>match i.agg with
  | true=>match Nat.ble (j + i.size) κ.sz with
   | true=>K (.agg ((((κ.enc x).drop j).take i.size).map .dat))
   | false=>False
  | false=>match (κ.enc x)[j]? with
   | some d=>K (.dat d)
   | none=>False
 | .rptr id k j sz=>match blk id with
  | some (.row _ κ l _)=>match Nat.beq sz κ.sz with
   | true=>k < l.length /\ match i.agg with
    | true=>match Nat.ble (j + i.size) κ.sz with
     | true=>K (.agg ((((κ.enc (l.getD k κ.dflt)).drop j).take i.size).map .dat))
     | false=>False
    | false=>match (κ.enc (l.getD k κ.dflt))[j]? with
     | some d=>K (.dat d)
     | none=>False
   | false=>False
  | some (.tree _ κ l)=>match Nat.beq sz κ.sz with
   | true=>k < l.length /\ match i.agg with
    | true=>match Nat.ble (j + i.size) κ.sz with
     | true=>K (.agg ((((κ.enc (l.getD k κ.dflt)).drop j).take i.size).map tP))
     | false=>False
    | false=>match (κ.enc (l.getD k κ.dflt))[j]? with
     | some d=>K (tP d)
     | none=>False
   | false=>False
  | _=>False
 | _=>False
def jK (d : Option TyI) (op : BinOp) (x y : AV) (K : AV -> Prop) : Prop :=
 match x,y with
 | .dat (.int k a),.dat (.int k' b) =>
  match op with
  | .shl=>0 <= b /\ K (.dat (.int k (k.wrap (a * 2 ^ (min b.toNat k.bits)))))
  | .shr=>0 <= b /\ K (.dat (.int k (a.fdiv (2 ^ (min b.toNat k.bits)))))
  | op=>match decide (k = k') with
   | false=>False
   | true=>match op with
    | .add=>K (.dat (.int k (k.wrap (a + b))))
    | .sub=>K (.dat (.int k (k.wrap (a - b))))
    | .mul=>K (.dat (.int k (k.wrap (a * b))))
    | .quo=>b ≠ 0 /\ K (.dat (.int k (k.wrap (a.tdiv b))))
    | .rem=>b ≠ 0 /\ K (.dat (.int k (a.tmod b)))
    | .and=>K (.dat (.int k (k.wrap (BitVec.ofInt k.bits a &&& BitVec.ofInt k.bits b).toNat)))
    | .or=>K (.dat (.int k (k.wrap (BitVec.ofInt k.bits a ||| BitVec.ofInt k.bits b).toNat)))
    | .xor=>K (.dat (.int k (k.wrap (BitVec.ofInt k.bits a ^^^ BitVec.ofInt k.bits b).toNat)))
    | .eql=>K (.dat (.bool (a == b)))
    | .neq=>K (.dat (.bool (a != b)))
    | .lss=>K (.dat (.bool (decide (a < b))))
    | .leq=>K (.dat (.bool (decide (a <= b))))
    | .gtr=>K (.dat (.bool (decide (a > b))))
    | .geq=>K (.dat (.bool (decide (a >= b))))
    | _=>False
 | .dat (.str a),.dat (.str b) =>
  match op with
  | .add=>a.size + b.size <= maxLen /\ K (.dat (.str (a ++ b)))
  | .eql=>K (.dat (.bool (a.toList == b.toList)))
  | .neq=>K (.dat (.bool (!(a.toList == b.toList))))
  | .lss=>K (.dat (.bool (Op.bytesLess a.toList b.toList)))
  | .geq=>K (.dat (.bool (!(Op.bytesLess a.toList b.toList))))
  | _=>False
 | .dat (.bool a),.dat (.bool b)=>match d with
  | some i=>match i.desc with
   | .bool=>match op with
    | .eql=>K (.dat (.bool (a == b)))
    | .neq=>K (.dat (.bool (!(a == b))))
    | _=>False
   | _=>False
  | none=>False
 | _,_=>False
def intsOf : List AV -> Option (List Int)
 | []=>some []
 | .dat (.int .i64 n) :: l=>match intsOf l with
  | some r=>some (n :: r)
  | none=>none
 | _=>none
def vI (xs : List Int) : Value := .agg (xs.map (Value.int .i64)).toArray
def AggEq (P : Program) (T : Nat) (n : Nat) : Prop := ∀ (x y : Operand) (xs ys : List Int) (w : World),xs.length = n -> ys.length = n ->
 (do eqGuard .eql T x y (vI xs) (vI ys);binOp .eql T (vI xs) (vI ys) : Sem Value).run P w = .ok (.bool (decide (xs = ys))) w /\
 (do eqGuard .neq T x y (vI xs) (vI ys);binOp .neq T (vI xs) (vI ys) : Sem Value).run P w = .ok (.bool (!decide (xs = ys))) w
def gZ (P : Program) (op : BinOp) (T : Nat) (xs ys : List AV) (K : AV -> Prop) : Prop :=
 match intsOf xs,intsOf ys with
 | some a,some b=>match Nat.beq a.length b.length with
  | true=>match op with
   | .eql=>AggEq P T a.length /\ K (.dat (.bool (decide (a = b))))
   | .neq=>AggEq P T a.length /\ K (.dat (.bool (!decide (a = b))))
   | _=>False
  | false=>False
 | _,_=>False
def wM (i : Option TyI) (op : BinOp) (a : Bool) (K : AV -> Prop) : Prop :=
 match i with
 | some i=>match i.desc with
  | .iface=>match op with
   | .eql=>K (.dat (.bool (!a)))
   | .neq=>K (.dat (.bool a))
   | _=>False
  | _=>False
 | none=>False
def uE (i : Option TyI) (op : BinOp) (a : Bool) (K : AV -> Prop) : Prop :=
 match i with
 | some i=>match i.desc with
  | .func=>match op,a with
   | .eql,true=>K (.dat (.bool false))
   | .eql,false=>K (.dat (.bool true))
   | .neq,true=>K (.dat (.bool true))
   | .neq,false=>K (.dat (.bool false))
   | _,_=>False
  | _=>False
 | none=>False
def abinA (P : Program) (τ : Tys) (op : BinOp) (T : Nat) (x y : AV) (K : AV -> Prop) : Prop :=
 match x,y with
 | .agg xs,.agg ys=>gZ P op T xs ys K
 | x,y=>jK (τ T) op x y K
def zI (P : Program) (τ : Tys) (op : BinOp) (T : Nat) (vx : AV) (y : Operand) (vy : AV) (K : AV -> Prop) : Prop :=
 match vx,y with
 | .dat (.err a),.const .nilIface=>wM (τ T) op a K
 | .dat .nof,.const .nilFunc=>uE (τ T) op false K
 | .dat (.clo _ _),.const .nilFunc=>uE (τ T) op true K
 | vx,_=>abinA P τ op T vx vy K
def anil (op : BinOp) (n : Nat) (K : AV -> Prop) : Prop :=
 match op with
 | .eql=>∀ b : Bool,(b = true -> n = 0) -> K (.dat (.bool b))
 | .neq=>∀ b : Bool,(b = false -> n = 0) -> K (.dat (.bool b))
 | _=>False
def aun (op : UnOp) (x : AV) (K : AV -> Prop) : Prop :=
 match x with
 | .dat (.bool b)=>match op with
  | .not=>K (.dat (.bool !b))
  | _=>False
 | .dat (.int k n)=>match op with
  | .neg=>K (.dat (.int k (k.wrap (0 - n))))
  | _=>False
 | _=>False
def nH (s d : Option TyI) (x : AV) (K : AV -> Prop) : Prop :=
 match s,d with
 | some _,some d=>match d.desc with
  | .int k=>match x with
   | .dat (.int _ n)=>K (.dat (.int k (k.wrap n)))
   | _=>False
  | _=>False
 | _,_=>False
def jP (τ : Tys) (s d : Option TyI) : Bool :=
 match s,d with
 | some i,some j=>match i.desc,j.desc with
  | .slice E _,.str=>match τ E with
   | some ie=>match ie.desc with
    | .int .u8=>true
    | _=>false
   | none=>false
  | _,_=>false
 | _,_=>false
def xM (τ : Tys) (s d : Option TyI) (l : List Int) (K : AV -> Prop) : Prop :=
 match jP τ s d with
 | true=>K (.dat (.str (strOfNums l)))
 | false=>False
def iK (τ : Tys) (blk : Nat -> Option Blk) (s d : Option TyI) (x : AV) (K : AV -> Prop) : Prop :=
 match x with
 | .row id=>match blk id with
  | some (.row _ .bytes l _)=>xM τ s d l K
  | _=>False
 | .dat (.seq .bytes l)=>xM τ s d l K
 | x=>nH s d x K
def vM (blk : Nat -> Option Blk) (i : Option TyI) (x : AV) (K : AV -> Prop) : Prop :=
 match i with
 | some i=>match i.desc with
  | .slice _ _=>match x with
   | .dat (.seq _ l)=>l.length <= maxLen -> K (.dat (.int .i64 l.length))
   | .nils=>K (.dat (.int .i64 0))
   | .row id=>match blk id with
    | some (.row _ _ l _)=>l.length <= maxLen -> K (.dat (.int .i64 l.length))
    | some (.tree _ _ l)=>l.length <= maxLen -> K (.dat (.int .i64 l.length))
    | _=>False
   | _=>False
  | .str=>match x with
   | .dat (.str s)=>K (.dat (.int .i64 s.size))
   | _=>False
  | _=>False
 | none=>False
def AV.cells1 : AV -> Option (List AV)
 | .agg l=>some l
 | .any=>none
 | .tup _=>none
 | v=>some [v]
def AV.oneC : AV -> Bool
 | .agg _=>false
 | .any=>false
 | .tup _=>false
 | _=>true
def sD (cells : List AV) (off : Nat) : List AV -> List AV
 | []=>cells
 | v :: vs=>sD (cells.set off v) (off + 1) vs
def kC (τ : Tys) (fl : List (Nat × Nat)) (e : Operand -> AV) : List (Nat × Operand) -> List AV -> (List AV -> Prop) -> Prop
 | [],cells,K=>K cells
 | (f,x) :: rest,cells,K=>match fl[f]? with
  | some (off,T)=>match τ T with
   | some i=>match i.agg with
    | true=>match e x with
     | .agg l=>match Nat.beq l.length i.size,Nat.ble (off + i.size) cells.length with
      | true,true=>kC τ fl e rest (sD cells off l) K
      | _,_=>False
     | _=>False
    | false=>match Nat.beq i.size 1,Nat.ble (off + 1) cells.length,(e x).oneC with
     | true,true,true=>kC τ fl e rest (sD cells off [e x]) K
     | _,_,_=>False
   | none=>False
  | none=>False
def uI (τ : Tys) (i : Option TyI) (x lo hi : Option AV) (K : AV -> Prop) : Prop :=
 match i with
 | some i=>match x with
  | some (.dat (.str s))=>match i.desc with
   | .str =>
    match lo,hi with
    | none,none=>K (.dat (.str (s.extract 0 s.size)))
    | some (.dat (.int _ l)),none=>(0 <= l /\ l <= s.size) /\ K (.dat (.str (s.extract l.toNat s.size)))
    | none,some (.dat (.int _ h))=>(0 <= h /\ h <= s.size) /\ K (.dat (.str (s.extract 0 h.toNat)))
    | some (.dat (.int _ l)),some (.dat (.int _ h))=>(0 <= l /\ l <= h /\ h <= s.size) /\ K (.dat (.str (s.extract l.toNat h.toNat)))
    | _,_=>False
   | _=>False
  | some (.dat (.seq κ xs))=>match i.desc with
   | .slice E _=>match τ E with
    | some ie=>match Nat.beq ie.size κ.sz with
     | true=>match lo,hi with
      | none,none=>K (.dat (.seq κ xs))
      | some (.dat (.int _ l)),none=>(0 <= l /\ l <= xs.length) /\ K (.dat (.seq κ (xs.drop l.toNat)))
      | none,some (.dat (.int _ h))=>(0 <= h /\ h <= xs.length) /\ K (.dat (.seq κ (xs.take h.toNat)))
      | some (.dat (.int _ l)),some (.dat (.int _ h))=>(0 <= l /\ l <= h /\ h <= xs.length) /\ K (.dat (.seq κ ((xs.take h.toNat).drop l.toNat)))
      | _,_=>False
     | false=>False
    | none=>False
   | _=>False
  | _=>False
 | none=>False
/-! ### maps from names to numbers -/
def mfind (s : ByteArray) : List (ByteArray × Int) -> Nat -> Option (Nat × Int)
 | [],_=>none
 | (k,n) :: l,i=>if k = s then some (i,n) else mfind s l (i + 1)
def mget (l : List (ByteArray × Int)) (s : ByteArray) : Option Int := (mfind s l 0).map (·.2)
def y8 (l : List (ByteArray × Int)) (s : ByteArray) (n : Int) : List (ByteArray × Int) := match mfind s l 0 with
 | none=>l ++ [(s,n)]
 | some (j,_)=>l.set j (s,n)
def xI (ok : Bool) (l : List (ByteArray × Int)) (s : ByteArray) (K : AV -> Prop) : Prop := match ok with
 | true=>K (.tup [.dat (.int .i64 ((mget l s).getD 0)),.dat (.bool (mget l s).isSome)])
 | false=>K (.dat (.int .i64 ((mget l s).getD 0)))
def fK (i : Option TyI) (blk : Nat -> Option Blk) (x ix : AV) (ok : Bool) (K : AV -> Prop) : Prop := match i with
 | some i=>match i.desc with
  | .map=>match ix with
   | .dat (.str s)=>match x with
    | .mp id=>match blk id with
     | some (.mp l _)=>xI ok l s K
     | _=>False
    | .nilm=>xI ok [] s K
    | _=>False
   | _=>False
  | _=>False
 | none=>False
def wY (i : Option TyI) (op : BinOp) (b : Option Blk) (K : AV -> Prop) : Prop := match i with
 | some i=>match i.desc with
  | .map=>match b with
   | some (.mp _ z)=>match op with
    | .eql=>K (.dat (.bool z))
    | .neq=>K (.dat (.bool (!z)))
    | _=>False
   | _=>False
  | _=>False
 | none=>False
def AV.idsC : AV -> List Nat
 | .row i=>[i]
 | .mp i=>[i]
 | .ptr i _=>[i]
 | .rptr i _ _ _=>[i]
 | _=>[]
def AV.idsM : AV -> List Nat
 | .agg l=>l.flatMap AV.idsC
 | .fn _ l=>l.flatMap AV.idsC
 | v=>v.idsC
def AV.ids : AV -> List Nat
 | .tup l=>l.flatMap AV.idsM
 | v=>v.idsM
def Blk.ids : Blk -> List Nat
 | .box cells=>cells.flatMap AV.idsC
 | .row _ _ _ _=>[]
 | .tree _ _ _=>[]
 | .mp _ _=>[]
 | .it _ _ _=>[]
def gL (i : Nat) : List Nat -> Bool
 | []=>false
 | j :: l=>match Nat.beq i j with|true=>true|false=>gL i l
def addIds : List Nat -> List Nat -> List Nat
 | [],acc=>acc
 | i :: l,acc=>match gL i acc with|true=>addIds l acc|false=>addIds l (acc ++ [i])
def nextIds (blk : Nat -> Option Blk) (l : List Nat) : List Nat :=
 addIds (l.flatMap fun i=>match blk i with|some b=>b.ids|none=>[]) l
def uC (i : Nat) : List Nat -> Nat -> Option Nat
 | [],_=>none
 | j :: l,k=>match Nat.beq i j with|true=>some k|false=>uC i l (k + 1)
def AV.numC (l : List Nat) : AV -> AV
 | .row j=>match uC j l 0 with|some k => .row k|none => .cell
 | .mp j=>match uC j l 0 with|some k => .mp k|none => .cell
 | .nilm => .nilm
 | .nilp => .nilp
 | .ptr j o=>match uC j l 0 with|some k => .ptr k o|none => .cell
 | .rptr j a b c=>match uC j l 0 with|some k => .rptr k a b c|none => .cell
 | .dat d => .dat d
 | .nils => .nils
 | .eptr κ x j => .eptr κ x j
 | .cell => .cell
 | _ => .any
def AV.numM (l : List Nat) : AV -> AV
 | .agg vs => .agg (vs.map (AV.numC l))
 | .fn f vs => .fn f (vs.map (AV.numC l))
 | v=>v.numC l
def AV.num (l : List Nat) : AV -> AV
 | .tup vs => .tup (vs.map (AV.numM l))
 | v=>v.numM l
def Blk.num (l : List Nat) : Blk -> Blk
 | .box cells => .box (cells.map (AV.numC l))
 | b=>b
def xB (blk : Nat -> Option Blk) (l : List Nat) : List Nat -> Option (List Blk)
 | []=>some []
 | i :: r=>match blk i with
  | some b=>match xB blk l r with
   | some bs=>some (b.num l :: bs)
   | none=>none
  | none=>none
def vA : List Nat -> Bool
 | []=>true
 | i :: l=>match gL i l with|true=>false|false=>vA l
/-! ### calls that are given blocks to write -/
def AV.idsL (l : List AV) : List Nat := l.flatMap AV.idsM
def upTo : Nat -> Nat -> List Nat
 | _,0=>[]
 | b,n + 1=>b :: upTo (b + 1) n
def namesG : Nat -> List Nat -> Nat -> Nat -> List Nat
 | 0,_,b,n=>upTo b n
 | k + 1,i :: L,b,n + 1=>i :: namesG k L (b + 1) n
 | _,_,_,_=>[]
def GP.of (n : Nat) (ρ : Rho) : GP := ⟨fun b=>∃ j r,j < n /\ ρ j = some r /\ r.has b,fun _=>none,fun _ _=>rfl⟩
def CallsG (P : Program) (f : FuncId) (args : List AV) (Bg : List Blk) (k : Nat) (R : AV -> List Blk -> Prop) : Prop :=
 (∃ fn,P.funcs[f]? = some fn /\ (fn.name == "runtime.NumGoroutine") = false /\ fn.body.isNone = false) /\
 ∀ (w : World) (Im : Nat -> Nat -> Prop) (ρ : Rho) (vs : Array Value),vs.size = args.length ->
  (∀ j a,args[j]? = some a -> AVR ρ w.heap Im a (vs.getD j undef)) -> Env (fun j=>Bg[j]?) ρ Im w.heap -> TabH w.heap Im ->
  Calls P f vs w fun e w'=>∃ v res B' ρ' Im',e = .returned v /\ R res B' /\ AVR ρ' w'.heap Im' res v /\ Env (fun j=>B'[j]?) ρ' Im' w'.heap /\
   (∀ j,j < k -> j < B'.length /\ ρ' j = ρ j) /\ Ext w (.of Bg.length ρ) Im (fun j=>B'[j]?) ρ' Im' w'
def forceBs : List Blk -> (List Blk -> Prop) -> Prop
 | [],K=>K []
 | .box cells :: l,K=>forceL cells fun cells=>forceBs l fun l=>K (.box cells :: l)
 | .row T κ x sh :: l,K=>forceBs l fun l=>K (.row T κ x sh :: l)
 | .tree T κ x :: l,K=>forceBs l fun l=>K (.tree T κ x :: l)
 | .mp x z :: l,K=>forceBs l fun l=>K (.mp x z :: l)
 | .it x n z :: l,K=>forceBs l fun l=>K (.it x n z :: l)
def forceNs : List Nat -> (List Nat -> Prop) -> Prop
 | [],K=>K []
 | i :: l,K=>forceNs l fun l=>K (i :: l)
def zL (blk : Nat -> Option Blk) (l0 : List Nat) (K : List Nat -> Prop) : Prop :=
 forceNs l0 fun l0=>forceNs (nextIds blk l0) fun l1=>forceNs (nextIds blk l1) K
def dL : List Blk -> Bool
 | []=>true
 | .box _ :: _=>false
 | _ :: l=>dL l
def jJ (P : Program) (blk : Nat -> Option Blk) (g : Nat) (vs : List AV) (K : AV -> Prop) : Prop :=
 forceLM vs fun vs=>zL blk (addIds (AV.idsL vs) []) fun L=>match vA L with
  | true=>match xB blk L L with
   | some bs=>match dL bs with
    | true=>forceLM (vs.map (AV.numM L)) fun vs=>forceBs bs fun bs=>∃ X,CallsG P g vs bs bs.length (fun res B=>res = X /\ B = bs) /\ X.flat = true /\ K X
    | false=>False
   | none=>False
  | false=>False
def fF (P : Program) (τ : Tys) (blk : Nat -> Option Blk) (g : Nat) (Ts : List Nat) (vs : List AV) (K : AV -> Prop) : Prop :=
 match pD τ blk Ts vs with
 | some (as,brw)=>∃ X,CallsV P g as X /\ (match brw with|false=>X.noid|true=>X.flat) = true /\ K X
 | none=>jJ P blk g vs K
def pval (P : Program) (τ : Tys) (e : Operand -> AV) (blk : Nat -> Option Blk) (op : Op) (K : AV -> Prop) : Prop :=
 match op with
 | .move x=>K (e x)
 | .assign x=>K (e x)
 | .pick c a b=>match e c with
  | .dat (.bool true)=>K (e a)
  | .dat (.bool false)=>K (e b)
  | _=>False
 | .load T a=>match τ T with
  | some i=>wG i blk (e a) K
  | none=>False
 | .nilCheck x=>match e x with
  | .ptr i o=>K (.ptr i o)
  | .eptr κ x j=>K (.eptr κ x j)
  | .rptr i k j s=>K (.rptr i k j s)
  | _=>False
 | .binOp op T x y _=>zI P τ op T (e x) y (e y) K
 | .unOp op _ x=>aun op (e x) K
 | .convert s d x=>iK τ blk (τ s) (τ d) (e x) K
 | .fieldAddr T x f=>match τ T with
  | some i=>match i.desc with
   | .flds l=>match l[f]? with
    | some (off,_)=>match e x with
     | .ptr id o=>K (.ptr id (o + off))
     | .eptr κ x j=>K (.eptr κ x (j + off))
     | .rptr id k j sz=>K (.rptr id k (j + off) sz)
     | _=>False
    | none=>False
   | _=>False
  | none=>False
 | .indexAddr T x ix=>match τ T with
  | some i=>match i.desc with
   | .slice E _=>match τ E with
    | some ie=>match e ix with
     | .dat (.int _ n)=>match e x with
      | .dat (.seq κ l)=>match Nat.beq ie.size κ.sz with
       | true=>(0 <= n /\ n < l.length) /\ K (.eptr κ (l.getD n.toNat κ.dflt) 0)
       | false=>False
      | .row id=>match blk id with
       | some (.row _ κ l _)=>match Nat.beq ie.size κ.sz with
        | true=>(0 <= n /\ n < l.length) /\ K (.rptr id n.toNat 0 κ.sz)
        | false=>False
       | some (.tree _ κ l)=>match Nat.beq ie.size κ.sz with
        | true=>(0 <= n /\ n < l.length) /\ K (.rptr id n.toNat 0 κ.sz)
        | false=>False
       | _=>False
      | _=>False
     | _=>False
    | none=>False
   | _=>False
  | none=>False
 | .index T x ix=>match τ T with
  | some i=>match i.desc with
   | .str=>match e ix with
    | .dat (.int _ n)=>match e x with
     | .dat (.str s)=>(0 <= n /\ n < s.size) /\ K (.dat (.int .u8 (s.data.toList.getD n.toNat 0).toNat))
     | _=>False
    | _=>False
   | _=>False
  | none=>False
 | .extract t ix=>match e t with
  | .tup l=>match l[ix]? with
   | some v=>K v
   | none=>False
  | _=>False
 | .lookup T x ix ok=>fK (τ T) blk (e x) (e ix) ok K
 | .build T parts=>match τ T with
  | some i=>match i.desc with
   | .flds l=>kC τ l e parts.toList (i.zero.map xF) fun cells=>K (.agg cells)
   | _=>False
  | none=>False
 | .slice T x lo hi none=>uI τ (τ T) (some (e x)) (lo.map e) (hi.map e) K
 | .call { callee := .builtin .min,args := args,argTypes := _ }=>match args.toList with
  | [x,y]=>match e x,e y with
   | .dat (.int k a),.dat (.int _ b)=>K (.dat (.int k (if b < a then b else a)))
   | _,_=>False
  | _=>False
 | .call { callee := .builtin .max,args := args,argTypes := _ }=>match args.toList with
  | [x,y]=>match e x,e y with
   | .dat (.int k a),.dat (.int _ b)=>K (.dat (.int k (if a < b then b else a)))
   | _,_=>False
  | _=>False
 | .call { callee := .builtin .len,args := args,argTypes := ts }=>match args.toList,ts.toList with
  | [x],[T]=>vM blk (τ T) (e x) K
  | _,_=>False
 | .call { callee := .value f,args := args,argTypes := ts }=>match e f with
  | .fn g []=>fF P τ blk g ts.toList (args.toList.map e) K
  | _=>False
 | _=>False
/-! ### operations that make or turn memory -/
def z6 (tm : Nat -> AV) (t : Nat) (v : AV) : Nat -> AV := fun s=>match Nat.beq s t with|true=>v|false=>tm s
def wA (tm : Nat -> AV) (i : Nat) : Nat -> AV := fun s=>(tm s).kill i
def AState.put (S : AState) (dst : Option Nat) (v : AV) (K : AState -> Prop) : Prop :=
 match dst with
 | none=>K S
 | some t=>match S with
  | ⟨n,tm,blk⟩=>match Nat.blt t n with
   | true=>K ⟨n,z6 tm t v,blk⟩
   | false=>False
def AState.new (S : AState) (t : Nat) (b : Blk) (v : AV) (K : AState -> Prop) : Prop :=
 match S with
 | ⟨n,tm,blk⟩=>match Nat.blt t n with
  | true=>match Nat.blt t 900000 with
   | true=>K ⟨n,z6 (wA tm t) t v,updB (g7 blk t) t (some b)⟩
   | false=>False
  | false=>False
def yX (S : AState) (z : Dat) (v : AV) (K : AState -> Dat -> Prop) : Prop :=
 match v with
 | .dat d=>K S d
 | .nils=>match z with
  | .seq κ _=>K S (.seq κ [])
  | _=>False
 | .row i=>match S with
  | ⟨n,tm,blk⟩=>match blk i with
   | some (.row T κ l _)=>K ⟨n,tm,updB blk i (some (.row T κ l true))⟩ (.seq κ l)
   | some (.tree _ κ l)=>K ⟨n,tm,updB blk i none⟩ (.seq κ l)
   | _=>False
 | _=>False
def gP : List Dat -> List AV -> AState -> (AState -> List Dat -> Prop) -> Prop
 | [],[],S,K=>K S []
 | z :: zs,v :: vs,S,K=>yX S z v fun S d=>gP zs vs S fun S ds=>K S (d :: ds)
 | _,_,_,_=>False
def fM (κ : K) (zs : List Dat) (e : Operand -> AV) : Nat -> List (Nat × Operand) -> AState -> (AState -> List κ.T -> Prop) -> Prop
 | _,[],S,K=>K S []
 | k,(i,x) :: rest,S,K=>match Nat.beq i k with
  | true=>match (e x).cells1 with
   | some vs=>gP zs vs S fun S ds=>match κ.dec ds with
    | some y=>fM κ zs e (k + 1) rest S fun S ys=>K S (y :: ys)
    | none=>False
   | none=>False
  | false=>False
def wX (κ : K) (_ : List Dat) (_ : Operand -> AV) (_ : Nat) (_ : List (Nat × Operand)) (_ : AState) (_ : AState -> List κ.T -> Prop) : Prop := False
def gI (blk : Nat -> Option Blk) (κ : K) (v : AV) : Option (List κ.T) :=
 match v with
 | .dat (.seq κ' l)=>if h : κ' = κ then some (h ▸ l) else none
 | .nils=>some []
 | .row i=>match blk i with
  | some (.row _ κ' l _)=>if h : κ' = κ then some (h ▸ l) else none
  | _=>none
 | _=>none
def iT (τ : Tys) (S : AState) (dst : Option Nat) (T : Nat) (x y : AV) (K : AState -> Prop) : Prop :=
 match dst,τ T with
 | some t,some i=>match i.desc with
  | .slice E κ=>match τ E with
   | some ie=>match Nat.beq ie.size κ.sz with
    | true=>match gI S.blk κ y with
     | some m=>match x with
      | .nils=>m.length * ie.bytes <= 140737488355328 /\ m.length <= maxLen /\ S.new t (.row E κ m false) (.row t) K
      | .row id=>match S.blk id with
       | some (.row E' κ' l sh)=>match Nat.beq E' E with
        | true=>if h : κ' = κ then
         ((l.length + m.length) * ie.bytes <= 140737488355328 /\ l.length + m.length <= maxLen) /\
          AState.new (S.kill id) t (.row E κ ((h ▸ l) ++ m) sh) (.row t) K
         else False
        | false=>False
       | _=>False
      | _=>False
     | none=>False
    | false=>False
   | none=>False
  | _=>False
 | _,_=>False
def zC (s : ByteArray) : List Int := s.data.toList.map fun b=>(b.toNat : Int)
def fZ (τ : Tys) (S : AState) (dst : Option Nat) (T U : Nat) (x : AV) (s : ByteArray) (K : AState -> Prop) : Prop :=
 match dst,τ T,τ U with
 | some t,some i,some iu=>match i.desc,iu.desc with
  | .slice E .bytes,.str=>match τ E with
   | some ie=>match Nat.beq ie.size 1,Nat.beq ie.bytes 1 with
    | true,true=>match x with
     | .nils=>s.size <= 140737488355328 /\ S.new t (.row E .bytes (zC s) false) (.row t) K
     | .row id=>match S.blk id with
      | some (.row E' .bytes l sh)=>match Nat.beq E' E with
       | true=>l.length + s.size <= 140737488355328 /\ AState.new (S.kill id) t (.row E .bytes (l ++ zC s) sh) (.row t) K
       | false=>False
      | _=>False
     | _=>False
    | _,_=>False
   | none=>False
  | _,_=>False
 | _,_,_=>False
def AState.setB (S : AState) (i : Nat) (b : Blk) : AState := match S with|⟨n,tm,blk⟩=>⟨n,tm,updB blk i (some b)⟩
def uY (S : AState) (dst : Option Nat) (id : Nat) (K : AState -> Prop) : Prop := match S.blk id with
 | some (.it l n _)=>(n = 0 -> S.put dst (.tup [.dat (.bool false)]) K) /\ ∀ m,m < n -> (S.setB id (.it l m true)).put dst (.tup [.dat (.bool true),.any,.any]) K
 | _=>False
def aZ (S : AState) (dst : Option Nat) (id : Nat) (K : AState -> Prop) : Prop := match S.blk id with
 | some (.it l _ true)=>∀ s v,(s,v) ∈ l -> S.put dst (.tup [.dat (.str s),.dat (.int .i64 v)]) K
 | _=>False
def tY (i : Option TyI) (S : AState) (dst : Option Nat) (x : AV) (K : AState -> Prop) : Prop := match dst,i with
 | some t,some i=>match i.desc with
  | .map=>match x with
   | .mp id=>match S.blk id with
    | some (.mp l _)=>(S.kill id).new t (.it l l.length false) (.ptr t 0) K
    | _=>False
   | _=>False
  | _=>False
 | _,_=>False
def xY (i : Option TyI) (S : AState) (m k v : AV) (K : AState -> Prop) : Prop := match i with
 | some i=>match i.desc with
  | .map=>match m,k,v with
   | .mp id,.dat (.str s),.dat (.int .i64 n)=>match S.blk id with
    | some (.mp l z)=>z = false /\ K (S.setB id (.mp (y8 l s n) z))
    | _=>False
   | _,_,_=>False
  | _=>False
 | none=>False
def pR (blk : Nat -> Option Blk) (i : Nat) : Bool := match blk i with
 | some (.tree _ _ _)=>true
 | _=>false
def eZ (_ : Tys) (_ : AState) (_ : Option Nat) (_ : Nat) (_ : AV) (_ : Nat) (_ : AState -> Prop) : Prop := False
def nY (_ : TyI) (_ : AState) (_ _ _ _ : Nat) (_ : List AV) (_ : AState -> Prop) : Prop := False
def oY (τ : Tys) (S : AState) (T : Nat) (p v : AV) (K : AState -> Prop) : Prop :=
 match τ T,v.cells1 with
 | some i,some vs=>match Nat.beq vs.length i.size with
  | true=>match vs.all AV.oneC with
   | true=>match p with
    | .ptr id off=>match S.blk id with
     | some (.box cells)=>match Nat.ble (off + i.size) cells.length with
      | true=>forceL (sD cells off vs) fun cells=>match mB cells with
       | true=>False
       | false=>K (S.setB id (.box cells))
      | false=>False
     | _=>False
    | .rptr id k j sz=>match pR S.blk id with
     | true=>nY i S id k j sz vs K
     | false=>gP i.zeroD vs S fun S ds=>match S.blk id with
     | some (.row E κ l false)=>match Nat.beq sz κ.sz,Nat.ble (j + i.size) κ.sz with
      | true,true=>match Nat.beq i.size κ.sz with
       | true=>k < l.length /\ match κ.dec (((κ.enc (l.getD k κ.dflt)).take j) ++ ds ++ ((κ.enc (l.getD k κ.dflt)).drop (j + i.size))) with
        | some y=>K (S.setB id (.row E κ (l.set k y) false))
        | none=>False
       | false=>match i.size,ds with
        | 1,[d]=>match κ.put1 (l.getD k κ.dflt) j d with
         | some y=>k < l.length /\ ∀ l' : List κ.T,l' = l.set k y -> K (S.setB id (.row E κ l' false))
         | none=>False
        | _,_=>False
      | _,_=>False
     | _=>False
    | _=>False
   | false=>False
  | false=>False
 | _,_=>False
def qJ : Nat -> Nat -> AState -> AState
 | 0,_,S=>S
 | n + 1,base,S=>qJ n (base + 1) (S.kill base)
def insN : List Blk -> Nat -> Nat -> Nat -> (Nat -> Option Blk) -> (Nat -> Option Blk)
 | [],_,_,_,B=>B
 | b :: bs,n,base,j,B=>insN bs n base (j + 1) (updB B (base + j) (some (b.ren n base)))
def AState.back (S : AState) (dst : Option Nat) (base : Nat) (res : AV) (B' : List Blk) (K : AState -> Prop) : Prop :=
 match Nat.ble (base + B'.length) 900000 with
 | true=>force (res.ren B'.length base) fun v=>match qJ B'.length base S with
  | ⟨n,tm,blk⟩=>AState.put ⟨n,tm,insN B' B'.length base 0 blk⟩ dst v K
 | false=>False
def baseOf (dst : Option Nat) : Nat := match dst with|some t=>1000 * (t + 1)|none=>890000
def iH (P : Program) (τ : Tys) (S : AState) (dst : Option Nat) (g : Nat) (Ts : List Nat) (vs : List AV) (K : AState -> Prop) : Prop :=
 match pD τ S.blk Ts vs with
 | some (as,brw)=>∃ fr R,CallsF P g as fr R /\ (match brw with|false=>true|true=>fr) = true /\
  ∀ res B',R res B' -> S.back dst (baseOf dst) res B' K
 | none=>False
/-! ### function values -/
def CapD.av : CapD -> AV
 | .int k n => .dat (.int k n)
 | .prog w m i c => .eptr .progs ⟨w,m,i,c⟩ 0
def AState.meltP (S : AState) (id t : Nat) (w m i : Int) (c : List V.Ins) : AState := match S with|⟨n,tm,blk⟩=>⟨n,z6 tm t (.eptr .progs ⟨w,m,i,c⟩ 0),updB blk id none⟩
def cK (S : AState) : List Operand -> (AState -> List CapD -> Prop) -> Prop
 | [],K=>K S []
 | x :: xs,K=>match ev S x with
  | .dat (.int k n)=>cK S xs fun S l=>K S (.int k n :: l)
  | .ptr id 0=>match x,S.blk id with
   | .tmp t,some (.box [.dat (.int .i64 w),.dat (.int .i64 m),.dat (.int .i64 i),.dat (.seq .inss c)])=>cK (S.meltP id t w m i c) xs fun S l=>K S (.prog w m i c :: l)
   | _,_=>False
  | .eptr .progs p 0=>cK S xs fun S l=>K S (.prog p.w p.mem p.inn p.code :: l)
  | _=>False
def pX (P : Program) (τ : Tys) (S : AState) (dst : Option Nat) (g : Nat) (Ts : List Nat) (vs : List AV) (ex : List AV) (K : AState -> Prop) : Prop :=
 match pD τ S.blk Ts vs with
 | some (as,brw)=>∃ fr R,CallsF P g (as ++ ex) fr R /\ (match brw with|false=>true|true=>fr) = true /\
  ∀ res B',R res B' -> S.back dst (baseOf dst) res B' K
 | none=>False
def AV.nameC (L : List Nat) : AV -> AV
 | .row j=>match L[j]? with|some i => .row i|none => .cell
 | .mp j=>match L[j]? with|some i => .mp i|none => .cell
 | .nilm => .nilm
 | .nilp => .nilp
 | .ptr j o=>match L[j]? with|some i => .ptr i o|none => .cell
 | .rptr j k o sz=>match L[j]? with|some i => .rptr i k o sz|none => .cell
 | .dat d => .dat d
 | .nils => .nils
 | .eptr κ x j => .eptr κ x j
 | .cell => .cell
 | _ => .any
def AV.nameM (L : List Nat) : AV -> AV
 | .agg l => .agg (l.map (AV.nameC L))
 | .fn f l => .fn f (l.map (AV.nameC L))
 | a=>a.nameC L
def AV.name (L : List Nat) : AV -> AV
 | .tup l => .tup (l.map (AV.nameM L))
 | a=>a.nameM L
def Blk.name (L : List Nat) : Blk -> Blk
 | .box cells => .box (cells.map (AV.nameC L))
 | b=>b
def mG : List Nat -> AState -> AState
 | [],S=>S
 | i :: l,S=>mG l (S.kill i)
def xJ : List Nat -> AState -> AState
 | [],S=>S
 | i :: l,⟨n,tm,blk⟩=>xJ l ⟨n,tm,updB blk i none⟩
def oL : List Nat -> List Blk -> (Nat -> Option Blk) -> (Nat -> Option Blk)
 | i :: is,b :: bs,B=>oL is bs (updB B i (some b))
 | _,_,B=>B
def AState.backG (S : AState) (dst : Option Nat) (base : Nat) (L : List Nat) (k : Nat) (res : AV) (B' : List Blk) (K : AState -> Prop) : Prop :=
 match Nat.ble (base + B'.length) 900000 && Nat.ble k B'.length && Nat.ble k L.length && vA (namesG k L base B'.length) with
 | true=>forceNs (namesG k L base B'.length) fun N=>force (res.name N) fun v=>match mG (N.drop k) (xJ (L.take k) (mG (L.drop k) S)) with
  | ⟨n,tm,blk⟩=>forceBs (B'.map (Blk.name N)) fun B'=>AState.put ⟨n,tm,oL N B' blk⟩ dst v K
 | false=>False
def qex (P : Program) (S : AState) (dst : Option Nat) (g : Nat) (vs : List AV) (L : List Nat) (K : AState -> Prop) : Prop :=
 match vA L with
 | true=>match xB S.blk L L with
  | some bs=>forceLM (vs.map (AV.numM L)) fun vs=>forceBs bs fun bs=>∃ k R,CallsG P g vs bs k R /\ ∀ res B',R res B' -> S.backG dst (baseOf dst) L k res B' K
  | none=>False
 | false=>False
def nI (P : Program) (S : AState) (dst : Option Nat) (g : Nat) (vs : List AV) (K : AState -> Prop) : Prop :=
 forceLM vs fun vs=>zL S.blk (addIds (AV.idsL vs) []) fun L=>qex P S dst g vs L K
def rO : List Nat -> AState -> (AState -> Prop) -> Prop
 | [],S,K=>K S
 | i :: l,⟨n,tm,blk⟩,K=>match blk i with
  | some (.row T κ x _)=>rO l ⟨n,tm,updB blk i (some (.row T κ x true))⟩ K
  | _=>rO l ⟨n,tm,blk⟩ K
def kT (P : Program) (τ : Tys) (S : AState) (dst : Option Nat) (g : Nat) (Ts : List Nat) (vs : List AV) (K : AState -> Prop) : Prop :=
 forceNs (AV.idsL vs) fun l=>rO l S fun S=>iH P τ S dst g Ts vs K
def qU (τ : Tys) (S : AState) (dst : Option Nat) (T : Nat) (id : Nat) (lo hi : Option AV) (K : AState -> Prop) : Prop :=
 match dst,lo,hi with
 | some t,none,some (.dat (.int _ h))=>match S.blk id,τ T with
  | some (.row E κ l false),some i=>match i.desc with
   | .slice E' _=>match τ E' with
    | some _=>(0 <= h /\ h <= l.length) /\ AState.new (S.kill id) t (.row E κ (l.take h.toNat) false) (.row t) K
    | none=>False
   | _=>False
  | _,_=>False
 | _,_,_=>False
def pU (τ : Tys) (S : AState) (dst : Option Nat) (T : Nat) (id : Nat) (hi mx : AV) (K : AState -> Prop) : Prop :=
 match dst,hi,mx with
 | some t,.dat (.int _ h),.dat (.int _ m)=>match S.blk id,τ T with
  | some (.row E κ l false),some i=>match i.desc with
   | .slice E' _=>match τ E' with
    | some _=>(0 <= h /\ h <= m /\ m <= l.length) /\ AState.new (S.kill id) t (.row E κ (l.take h.toNat) false) (.row t) K
    | none=>False
   | _=>False
  | _,_=>False
 | _,_,_=>False
inductive Alt (a b : Prop) : Prop where
 | l (h : a) : Alt a b
 | r (h : b) : Alt a b
def fX (P : Program) (τ : Tys) (S : AState) (dst : Option Nat) (T : Nat) (x : Operand) (lo hi : Option Operand) (id : Nat) (K : AState -> Prop) : Prop :=
 match x with
 | .tmp s=>match S with
  | ⟨n,tm,blk⟩=>match blk id with
   | some (.row E κ l _)=>pval P τ (ev ⟨n,z6 tm s (.dat (.seq κ l)),updB blk id (some (.row E κ l true))⟩) (updB blk id (some (.row E κ l true))) (.slice T x lo hi none) fun v =>
    force v fun v=>AState.put ⟨n,z6 tm s (.dat (.seq κ l)),updB blk id (some (.row E κ l true))⟩ dst v K
   | _=>False
 | _=>False
def Value.hollow : Value -> Bool
 | .slice none 0 0=>true
 | .slice _ _ _=>false
 | _=>true
def Dat.hollow : Dat -> Bool
 | .err _=>false
 | .nof=>false
 | .clo _ _=>false
 | .seq _ []=>true
 | .seq _ _=>false
 | _=>true
def step (P : Program) (τ : Tys) (o : Oper) (S : AState) (K : AState -> Prop) : Prop :=
 match o.op with
 | .alloc T=>match o.dst,τ T with
  | some t,some i=>forceL (i.zero.map xF) fun cells=>match cells.all AV.oneC with
   | true=>match bldN cells T with
    | true=>S.new t (.box cells) (.ptr t 0) K
    | false=>False
   | false=>False
  | _,_=>False
 | .box T x=>match o.dst,τ T,(ev S x).cells1 with
  | some t,some _,some vs=>match vs.all AV.oneC with
   | true=>forceL vs fun vs=>match mB vs with
    | true=>False
    | false=>S.new t (.box (vs.map (AV.killC t))) (.ptr t 0) K
   | false=>False
  | _,_,_=>False
 | .buildSlice T len parts=>match o.dst,τ T with
  | some t,some i=>match i.desc with
   | .slice E κ=>match τ E with
    | some ie=>match Nat.beq ie.size κ.sz,Nat.beq parts.toList.length len,Nat.ble (len * ie.size) 16777216 with
     | true,true,true=>match κ.flat with
      | true=>fM κ ie.zeroD (ev S) 0 parts.toList S fun S ys=>S.new t (.row E κ ys false) (.row t) K
      | false=>Alt (fM κ ie.zeroD (ev S) 0 parts.toList S fun S ys=>S.new t (.row E κ ys false) (.row t) K)
       (wX κ ie.zeroD (ev S) 0 parts.toList S fun S ys=>S.new t (.tree E κ ys) (.row t) K)
     | _,_,_=>False
    | none=>False
   | _=>False
  | _,_=>False
 | .makeSlice T l c=>match o.dst,τ T with
  | some t,some i=>match i.desc with
   | .slice E κ=>match τ E with
    | some ie=>match Nat.beq ie.size κ.sz,κ.dec ie.zeroD with
     | true,some z=>match ev S l,ev S c with
      | .dat (.int .i64 n),.dat (.int .i64 m)=>(0 <= n /\ n <= m /\ m * ie.bytes <= 140737488355328 /\ m <= maxLen) /\ match κ.flat with
       | true=>S.new t (.row E κ (List.replicate n.toNat z) false) (.row t) K
       | false=>Alt (S.new t (.row E κ (List.replicate n.toNat z) false) (.row t) K) (match ie.zero.all Value.hollow && ie.zeroD.all Dat.hollow with
        | true=>S.new t (.tree E κ (List.replicate n.toNat z)) (.row t) K
        | false=>False)
      | _,_=>False
     | _,_=>False
    | none=>False
   | _=>False
  | _,_=>False
 | .slice T x lo hi none=>match ev S x with
  | .row id=>Alt (qU τ S o.dst T id (lo.map (ev S)) (hi.map (ev S)) K) (fX P τ S o.dst T x lo hi id K)
  | _=>pval P τ (ev S) S.blk (.slice T x lo hi none) fun v=>force v fun v=>S.put o.dst v K
 | .slice T x none (some hi) (some mx)=>match ev S x with
  | .row id=>pU τ S o.dst T id (ev S hi) (ev S mx) K
  | _=>pval P τ (ev S) S.blk (.slice T x none (some hi) (some mx)) fun v=>force v fun v=>S.put o.dst v K
 | .store T a x=>oY τ S T (ev S a) (ev S x) fun S=>S.put o.dst .any K
 | .makeMap T none=>match o.dst,τ T with
  | some t,some i=>match i.desc with
   | .map=>S.new t (.mp [] false) (.mp t) K
   | _=>False
  | _,_=>False
 | .range T x=>tY (τ T) S o.dst (ev S x) K
 | .next x false=>match ev S x with
  | .ptr id 0=>uY S o.dst id K
  | _=>False
 | .entry x=>match ev S x with
  | .ptr id 0=>aZ S o.dst id K
  | _=>False
 | .mapUpdate T m k v=>xY (τ T) S (ev S m) (ev S k) (ev S v) fun S=>S.put o.dst .any K
 | .call { callee := .builtin .append,args := args,argTypes := ts }=>match args.toList,ts.toList with
  | [x,y],[T,T']=>match Nat.beq T T' with
   | true=>match ev S y with
    | .row id2=>match pR S.blk id2 with
     | true=>eZ τ S o.dst T (ev S x) id2 K
     | false=>iT τ S o.dst T (ev S x) (.row id2) K
    | v=>iT τ S o.dst T (ev S x) v K
   | false=>match ev S y with
    | .dat (.str s)=>fZ τ S o.dst T T' (ev S x) s K
    | _=>False
  | _,_=>False
 | .call { callee := .value f,args := args,argTypes := ts }=>match ev S f with
  | .fn g []=>fF P τ S.blk g ts.toList (args.toList.map (ev S)) (fun v=>force v fun v=>S.put o.dst v K) \/
   iH P τ S o.dst g ts.toList (args.toList.map (ev S)) K \/ nI P S o.dst g (args.toList.map (ev S)) K \/ forceLM (args.toList.map (ev S)) fun vs=>kT P τ S o.dst g ts.toList vs K
  | .dat (.clo g caps)=>pX P τ S o.dst g ts.toList (args.toList.map (ev S)) (caps.map CapD.av) K
  | _=>False
 | .makeFunc (.func g) first captured=>match first.toList with
  | []=>cK S captured.toList fun S l=>S.put o.dst (.dat (.clo g l)) K
  | _=>False
 | .binOp op T x y U=>match ev S x,ev S y with
  | .dat (.seq _ l),.nils=>match τ T with
   | some i=>match i.desc with
    | .slice _ _=>anil op l.length fun v=>S.put o.dst v K
    | _=>False
   | none=>False
  | .mp id,.nilm=>wY (τ T) op (S.blk id) fun v=>S.put o.dst v K
  | _,_=>pval P τ (ev S) S.blk (.binOp op T x y U) fun v=>force v fun v=>S.put o.dst v K
 | op=>pval P τ (ev S) S.blk op fun v=>force v fun v=>S.put o.dst v K
def AState.setT (S : AState) (t : Nat) (v : AV) : AState := match S with|⟨n,tm,blk⟩=>⟨n,z6 tm t v,blk⟩
def w8 (P : Program) (τ : Tys) (ops : Array Oper) : List Oper -> AState -> (AState -> Prop) -> Prop
 | [],S,K=>K S
 | o :: rest,S,K=>match o.guard with
  | none=>step P τ o S fun S=>w8 P τ ops rest S K
  | some (g,want)=>match (ops[g]?).bind (·.dst) with
   | some t=>match S.tm t with
    | .dat (.bool c)=>match want with
     | true=>(c = true -> step P τ o (S.setT t (.dat (.bool true))) fun S=>w8 P τ ops rest S K) /\
      (c = false -> (S.setT t (.dat (.bool false))).put o.dst (.tup []) fun S=>w8 P τ ops rest S K)
     | false=>(c = false -> step P τ o (S.setT t (.dat (.bool false))) fun S=>w8 P τ ops rest S K) /\
      (c = true -> (S.setT t (.dat (.bool true))).put o.dst (.tup []) fun S=>w8 P τ ops rest S K)
    | .tup []=>S.put o.dst (.tup []) fun S=>w8 P τ ops rest S K
    | _=>False
   | none=>False
/-! ### a call that writes into a slice of a tree's element: load, move, call -/
def eW (_ : Program) (_ : Tys) (_ : AState) (_ _ _ : Oper) (_ : AState -> Prop) : Prop := False
def iL (τ : Tys) (S : AState) (o : Oper) : Bool :=
 match o.op with
 | .load T p=>match ev S p with
  | .rptr id _ _ _=>match pR S.blk id,τ T with
   | true,some i=>match i.desc,i.agg with
    | .slice _ _,false=>true
    | _,_=>false
   | _,_=>false
  | _=>false
 | _=>false
def yF (P : Program) (τ : Tys) (ops : Array Oper) : List Oper -> AState -> (AState -> Prop) -> Prop
 | [],S,K=>K S
 | [o],S,K=>w8 P τ ops [o] S K
 | [o,o'],S,K=>w8 P τ ops [o,o'] S K
 | o1 :: o2 :: o3 :: rest,S,K=>match iL τ S o1 with
  | true=>eW P τ S o1 o2 o3 fun S=>yF P τ ops rest S K
  | false=>w8 P τ ops [o1] S fun S=>yF P τ ops (o2 :: o3 :: rest) S K
/-! ### a region that draws its order -/
def uM (blk : Nat -> Option Blk) (i : Option TyI) (x : AV) (K : AV -> Prop) : Prop :=
 match i with
 | some i=>match i.desc with
  | .slice _ _=>match x with
   | .dat (.seq _ l)=>K (.dat (.int .i64 l.length))
   | .nils=>K (.dat (.int .i64 0))
   | .row id=>match blk id with
    | some (.row _ _ l _)=>K (.dat (.int .i64 l.length))
    | some (.tree _ _ l)=>K (.dat (.int .i64 l.length))
    | _=>False
   | _=>False
  | .str=>match x with
   | .dat (.str s)=>K (.dat (.int .i64 s.size))
   | _=>False
  | _=>False
 | none=>False
def pvalD (P : Program) (τ : Tys) (e : Operand -> AV) (blk : Nat -> Option Blk) (op : Op) (K : AV -> Prop) : Prop :=
 match op with
 | .call { callee := .builtin .len,args := args,argTypes := ts }=>match args.toList,ts.toList with
  | [x],[T]=>uM blk (τ T) (e x) K
  | _,_=>False
 | op=>pval P τ e blk op K
def iB (P : Program) (τ : Tys) (ops : Array Oper) : List Oper -> AState -> (AState -> Prop) -> Prop
 | [],S,K=>K S
 | o :: rest,S,K=>match o.guard with
  | none=>pvalD P τ (ev S) S.blk o.op fun v=>force v fun v=>S.put o.dst v fun S=>iB P τ ops rest S K
  | some (g,want)=>match (ops[g]?).bind (·.dst) with
   | some t=>match S.tm t with
    | .dat (.bool c)=>match want with
     | true=>(c = true -> pvalD P τ (ev (S.setT t (.dat (.bool true)))) S.blk o.op fun v=>force v fun v=>(S.setT t (.dat (.bool true))).put o.dst v fun S=>iB P τ ops rest S K) /\
      (c = false -> (S.setT t (.dat (.bool false))).put o.dst (.tup []) fun S=>iB P τ ops rest S K)
     | false=>(c = false -> pvalD P τ (ev (S.setT t (.dat (.bool false)))) S.blk o.op fun v=>force v fun v=>(S.setT t (.dat (.bool false))).put o.dst v fun S=>iB P τ ops rest S K) /\
      (c = true -> (S.setT t (.dat (.bool true))).put o.dst (.tup []) fun S=>iB P τ ops rest S K)
    | .tup []=>S.put o.dst (.tup []) fun S=>iB P τ ops rest S K
    | _=>False
   | none=>False
def wU : Op -> Bool
 | .alloc _=>false
 | .box _ _=>false
 | .buildSlice _ _ _=>false
 | .makeSlice _ _ _=>false
 | .makeMap _ _=>false
 | .store _ _ _=>false
 | .call { callee := .builtin .append,.. }=>false
 | .call { callee := .builtin .copy,.. }=>false
 | .mapUpdate _ _ _ _=>false
 | .next _ _=>false
 | _=>true
def preLen : List Oper -> Nat
 | []=>0
 | o :: l=>match wU o.op with
  | true=>preLen l + 1
  | false=>0
def oS (o : Oper) (j : Nat) : Bool := o.after.toList.any fun e=>Region.binds .any e && Nat.beq e.on j
def vH (ops : List Oper) : Nat -> Oper -> Nat -> Bool
 | 0,_,_=>false
 | f + 1,o,j=>o.after.toList.any fun e=>Region.binds .any e && (Nat.beq e.on j || match ops[e.on]? with|some o'=>vH ops f o' j|none=>false)
def backB (o : Oper) (i : Nat) : Bool := o.after.toList.all fun e => !Region.binds .any e || Nat.blt e.on i
def dstIs (o : Oper) (t : Nat) : Bool := match o.dst with|some d=>Nat.beq d t|none=>false
def iQ (ops : List Oper) (o : Oper) (i t : Nat) : List Oper -> Nat -> Bool
 | [],_=>true
 | o' :: l,j=>(!dstIs o' t || (Nat.blt j i && oS o j) || (Nat.blt i j && oS o' i)) && iQ ops o i t l (j + 1)
def sQ (ops : Array Oper) (pre : List Oper) : List Oper -> Nat -> Bool
 | [],_=>true
 | o :: l,i=>o.dst.isSome && (l.all fun o' => !dstIs o' (o.dst.getD 0)) && ((o.looksAt ops).all fun t=>iQ pre o i t pre 0) && sQ ops pre l (i + 1)
def aQ (ops : List Oper) : List Oper -> Nat -> Bool
 | [],_=>true
 | o :: l,i=>((List.range i).all fun j=>vH ops (i + 1) o j) && aQ ops l (i + 1)
def tG : List Oper -> Nat -> Bool
 | [],_=>true
 | o :: l,i=>backB o i && tG l (i + 1)
def cR : Op -> Bool
 | .select .. => false
 | _=>true
def kF : List Oper -> Bool
 | []=>true
 | o :: l=>match cR o.op with
  | true=>kF l
  | false=>false
def cP (ops : Array Oper) (p : Nat) : Bool :=
 tG ops.toList 0 && sQ ops (ops.toList.take p) (ops.toList.take p) 0 && aQ ops.toList (ops.toList.drop p) p && kF ops.toList
/-! ### a region whose operations turn memory before the order is settled -/
def kG : Op -> Bool
 | .call { callee := .value _,.. }=>false
 | _=>true
def qa1 (τ : Tys) : Op -> Bool
 | .slice T _ _ _ _=>match τ T with
  | some i=>match i.desc with
   | .str=>false
   | _=>true
  | none=>true
 | _=>false
def kR (τ : Tys) (op : Op) : Bool := match qa1 τ op with
 | true=>false
 | false=>wU op && kG op
def dR (τ : Tys) : List Oper -> Bool
 | []=>true
 | o :: l=>match qa1 τ o.op with
  | true=>false
  | false=>dR τ l
def vG (n : Nat) (acc : List Nat) : List Edge -> Nat
 | []=>0
 | e :: l=>match Region.binds .any e with
  | true=>Nat.lor (Nat.lor (2 ^ e.on) (acc.getD (n - 1 - e.on) 0)) (vG n acc l)
  | false=>vG n acc l
def sF (x : Nat) (K : Nat -> Prop) : Prop := match x with
 | 0=>K 0
 | n + 1=>K (n + 1)
def eK : List Oper -> Nat -> List Nat -> List (Nat × Oper × Nat) -> (List (Nat × Oper × Nat) -> Prop) -> Prop
 | [],_,_,out,K=>K out
 | o :: l,n,acc,out,K=>sF (vG n acc o.after.toList) fun x=>eK l (n + 1) (x :: acc) (out ++ [(n,o,x)]) K
structure Ent where
 i : Nat
 o : Oper
 a : Nat
 p : Bool
def eO (τ : Tys) (ops : Array Oper) (L : List (Nat × Oper × Nat)) (i : Nat) (o : Oper) : Bool := match kR τ o.op,o.dst with
 | true,some d=>L.all fun e=>match e with
  | (j,o',a)=>(Nat.beq i j || !dstIs o' d) && (!((o'.looksAt ops).any fun t=>Nat.beq t d) || Nat.testBit a i)
 | _,_=>false
def jH (τ : Tys) (ops : Array Oper) (L : List (Nat × Oper × Nat)) : List (Nat × Oper × Nat) -> List Ent -> (List Ent -> Prop) -> Prop
 | [],out,K=>K out
 | (i,o,a) :: l,out,K=>match eO τ ops L i o with
  | true=>jH τ ops L l (out ++ [⟨i,o,a,true⟩]) K
  | false=>jH τ ops L l (out ++ [⟨i,o,a,false⟩]) K
def f7 : List Ent -> Nat
 | []=>0
 | e :: l=>match e.p with|true=>f7 l|false=>Nat.lor (2 ^ e.i) (f7 l)
def t8 (R done a : Nat) : Bool := Nat.beq (Nat.lor (Nat.land a R) done) done
def eD (P : Program) (τ : Tys) (ops : Array Oper) (R : Nat) (first : Bool) (done done' : Nat) : List Ent -> AState -> (AState -> Prop) -> Prop
 | [],S,K=>K S
 | e :: l,S,K=>match e.p && t8 R done' e.a && (first || !t8 R done e.a) with
  | true=>iB P τ ops [e.o] S fun S=>eD P τ ops R first done done' l S K
  | false=>eD P τ ops R first done done' l S K
def dT (P : Program) (τ : Tys) (ops : Array Oper) (o : Oper) (S : AState) (K : Prop) : Prop :=
 match o.dst with
 | none=>False
 | some d=>match o.guard with
  | none=>pvalD P τ (ev S) S.blk o.op fun v=>force v fun v=>force (S.tm d) fun u=>v = u /\ K
  | some (g,want)=>match (ops[g]?).bind (·.dst) with
   | some t=>match S.tm t with
    | .dat (.bool c)=>match c == want with
     | true=>pvalD P τ (ev S) S.blk o.op fun v=>force v fun v=>force (S.tm d) fun u=>v = u /\ K
     | false=>force (S.tm d) fun u=>u = .tup [] /\ K
    | .tup []=>force (S.tm d) fun u=>u = .tup [] /\ K
    | _=>False
   | none=>False
def sE (P : Program) (τ : Tys) (ops : Array Oper) (R done ar : Nat) : List Ent -> AState -> Prop -> Prop
 | [],_,K=>K
 | e :: l,S,K=>match e.p && t8 R done e.a && !Nat.testBit ar e.i with
  | true=>dT P τ ops e.o S (sE P τ ops R done ar l S K)
  | false=>sE P τ ops R done ar l S K
def wK (R done : Nat) : List Ent -> List Ent
 | []=>[]
 | e :: l=>match !e.p && !Nat.testBit done e.i && t8 R done e.a with
  | true=>e :: wK R done l
  | false=>wK R done l
def iM (rec : Ent -> Prop) : List Ent -> Prop
 | []=>False
 | [e]=>rec e
 | e :: l=>rec e /\ iM rec l
def awpR (P : Program) (τ : Tys) (ops : Array Oper) (E : List Ent) (R : Nat) : Nat -> Nat -> AState -> (AState -> Prop) -> Prop
 | 0,done,S,K=>match Nat.beq done R with
  | true=>K S
  | false=>False
 | f + 1,done,S,K=>match Nat.beq done R with
  | true=>K S
  | false=>iM (fun r=>w8 P τ ops [r.o] S fun S=>sE P τ ops R done r.a E S
   (sF (Nat.lor done (2 ^ r.i)) fun done'=>eD P τ ops R false done done' E S fun S=>awpR P τ ops E R f done' S K)) (wK R done E)
def uG (P : Program) (τ : Tys) (ops : Array Oper) (S : AState) (K : AState -> Prop) : Prop :=
 match tG ops.toList 0 && kF ops.toList with
 | true=>eK ops.toList 0 [] [] fun L=>jH τ ops L L [] fun E=>sF (f7 E) fun R =>
  eD P τ ops R true 0 0 E S fun S=>awpR P τ ops E R E.length 0 S K
 | false=>False
inductive AX where
 | normal
 | exit (id : Nat)
 | goto (l : Nat)
 | ret
def Sub (S S' : AState) : Prop := ∀ w0 G Im0 a w,o5 w0 G Im0 S a w -> o5 w0 G Im0 S' a w
def vO : Nat -> AState -> (AState -> Prop) -> Prop
 | 0,S,K=>K S
 | i + 1,⟨n,tm,blk⟩,K=>match blk i with
  | some (.box cells)=>forceL cells fun cells=>vO i ⟨n,tm,updB blk i (some (.box cells))⟩ K
  | _=>vO i ⟨n,tm,blk⟩ K
def qe3 : List Oper -> Bool
 | []=>false
 | o :: l=>match wU o.op && kG o.op with
  | true=>qe3 l
  | false=>true
def dS (ops : List Oper) (S : AState) (K : AState -> Prop) : Prop := match qe3 ops with
 | true=>sF S.n fun n=>vO n S K
 | false=>K S
theorem kX (K : AState -> Prop) : ∀ (i : Nat) (S : AState),vO i S K = K S
 | 0,S=>rfl
 | i + 1,⟨n,tm,blk⟩=>by
  simp only [vO]
  split
  . rename_i cells hc
    rw [forceL_eq,kX K i]
    have : updB blk i (some (.box cells)) = blk := by
     funext j
     by_cases e : j = i
     . subst e;rw [updB_same,hc]
     . rw [updB_ne _ e]
    rw [this]
  . exact kX K i _
theorem qe4 (x : Nat) (K : Nat -> Prop) : sF x K = K x := by cases x <;> rfl
theorem qng (ops : List Oper) (S : AState) (K : AState -> Prop) : dS ops S K = K S := by
 unfold dS
 split
 . rw [qe4,kX]
 . rfl
def yA (P : Program) (τ : Tys) : Code -> AState -> (AX -> AState -> Prop) -> Prop
 | .skip,S,K=>K .normal S
 | .region _ ops false,S,K=>yF P τ ops ops.toList S fun S=>dS ops.toList S (K .normal)
 | .region _ ops true,S,K=>match dR τ ops.toList && cP ops (preLen ops.toList) with
  | true=>Alt (iB P τ ops (ops.toList.take (preLen ops.toList)) S fun S=>w8 P τ ops (ops.toList.drop (preLen ops.toList)) S (K .normal)) (uG P τ ops S (K .normal))
  | false=>uG P τ ops S (K .normal)
 | .seq a b,S,K=>∀ K' : AX -> AState -> Prop,(K' = fun e S=>match e with
  | .normal=>yA P τ b S K
  | .exit i=>K (.exit i) S
  | .goto l=>K (.goto l) S
  | .ret=>K .ret S) -> yA P τ a S K'
 | .cond c x y,S,K=>match ev S c with
  | .dat (.bool b)=>(b = true -> yA P τ x S K) /\ (b = false -> yA P τ y S K)
  | _=>False
 | .block id c,S,K=>yA P τ c S fun e S=>match e with
  | .normal=>K .normal S
  | .exit i=>match Nat.beq i id with|true=>K .normal S|false=>K (.exit i) S
  | .goto l=>K (.goto l) S
  | .ret=>K .ret S
 | .loop c,S,K=>∃ (α : Type) (St : α -> AState) (μ : α -> Nat) (x : α),Sub S (St x) /\ ∀ x,yA P τ c (St x) fun e S=>match e with
  | .normal=>∃ y,μ y < μ x /\ Sub S (St y)
  | .exit i=>K (.exit i) S
  | .goto l=>K (.goto l) S
  | .ret=>K .ret S
 | .exit i,S,K=>K (.exit i) S
 | .label _,S,K=>K .normal S
 | .ret,S,K=>K .ret S
 | _,_,_=>False
end Vg
