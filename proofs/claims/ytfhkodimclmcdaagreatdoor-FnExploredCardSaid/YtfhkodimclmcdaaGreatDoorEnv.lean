/- The abstract domain: data as trees, abstract values, abstract blocks, abstract states. No condition. -/
import Derived.Laws.Append
import Derived.Laws.AppendOwn
import Derived.Laws.World
import Derived.Laws.Sem
import Derived.Laws.Cells
import Derived.Calls
import Derived.Orders
import Derived.Tactics
namespace Vg
open Go
theorem asmR {p : Prop} (h : p := by with_reducible assumption) : p := h
theorem omG {p : Prop} (h : p := by omega) : p := h
/-! ### the program's data -/
namespace V
structure Ins where
 op : Int
 a : Int
 b : Int
 c : Int
 deriving Inhabited,DecidableEq
structure Prog where
 w : Int
 mem : Int
 inn : Int
 code : List Ins
 deriving Inhabited,DecidableEq
structure Fact where
 kind : Int
 a : Int
 b : Int
 n : Int
 deriving Inhabited,DecidableEq
structure State where
 pc : Int
 regs : List Int
 mem : List Int
 stack : List Int
 inn : Int
 out : List Int
 code : Int
 steps : Int
 deriving Inhabited,DecidableEq
structure Val where
 name : ByteArray
 w : Int
 n : Int
 deriving DecidableEq
structure Term where
 op : Int
 w : Int
 n : Int
 name : ByteArray
 kids : List Term
noncomputable instance : DecidableEq Term := fun a b=>Classical.propDecidable (a = b)
structure Path where
 pc : Int
 regs : List Term
 mem : List Term
 stack : List Int
 inn : Int
 out : List Term
 code : Int
 steps : Int
 cond : List Term
 turns : List Int
end V
inductive K where
 | ints|bools|strs|intss|inss|progs|facts|states|bytes|vals|terms|paths
 deriving DecidableEq
@[reducible] def K.T : K -> Type
 | .ints=>Int
 | .bools=>Bool
 | .strs=>ByteArray
 | .intss=>List Int
 | .inss=>V.Ins
 | .progs=>V.Prog
 | .facts=>V.Fact
 | .states=>V.State
 | .bytes=>Int
 | .vals=>V.Val
 | .terms=>V.Term
 | .paths=>V.Path
def K.dflt : (κ : K) -> κ.T
 | .ints=>(0 : Int)
 | .bools=>false
 | .strs=>ByteArray.empty
 | .intss=>([] : List Int)
 | .inss=>(⟨0,0,0,0⟩ : V.Ins)
 | .progs=>(⟨0,0,0,[]⟩ : V.Prog)
 | .facts=>(⟨0,0,0,0⟩ : V.Fact)
 | .states=>(⟨0,[],[],[],0,[],0,0⟩ : V.State)
 | .bytes=>(0 : Int)
 | .vals=>(⟨ByteArray.empty,0,0⟩ : V.Val)
 | .terms=>(⟨0,0,0,ByteArray.empty,[]⟩ : V.Term)
 | .paths=>(⟨0,[],[],[],0,[],0,0,[],[]⟩ : V.Path)
def K.sz : K -> Nat
 | .ints=>1 | .bools=>1 | .strs=>1 | .intss=>1 | .inss=>4 | .progs=>4 | .facts=>4 | .states=>8 | .bytes=>1 | .vals=>3 | .terms=>5 | .paths=>10
def K.flat : K -> Bool
 | .ints=>true | .bools=>true | .strs=>true | .inss=>true | .facts=>true | .bytes=>true | .vals=>true
 | _=>false
def K.flatS : K -> Bool
 | .bytes=>false
 | κ=>κ.flat
inductive CapD where
 | int (k : IntKind) (n : Int)
 | prog (w mem inn : Int) (code : List V.Ins)
inductive Dat where
 | int (k : IntKind) (n : Int)
 | bool (b : Bool)
 | str (s : ByteArray)
 | err (b : Bool)
 | nof
 | clo (g : Nat) (caps : List CapD)
 | seq (κ : K) (l : List κ.T)
abbrev Dat.i (n : Int) : Dat := .int .i64 n
def K.enc : (κ : K) -> κ.T -> List Dat
 | .ints,n=>[.int .i64 n]
 | .bools,b=>[.bool b]
 | .strs,s=>[.str s]
 | .intss,l=>[.seq .ints l]
 | .inss,x=>[.int .i64 x.op,.int .i64 x.a,.int .i64 x.b,.int .i64 x.c]
 | .progs,x=>[.int .i64 x.w,.int .i64 x.mem,.int .i64 x.inn,.seq .inss x.code]
 | .facts,x=>[.int .i64 x.kind,.int .i64 x.a,.int .i64 x.b,.int .i64 x.n]
 | .bytes,n=>[.int .u8 n]
 | .vals,x=>[.str x.name,.int .i64 x.w,.int .i64 x.n]
 | .terms,x=>[.int .i64 x.op,.int .i64 x.w,.int .i64 x.n,.str x.name,.seq .terms x.kids]
 | .paths,x=>[.int .i64 x.pc,.seq .terms x.regs,.seq .terms x.mem,.seq .ints x.stack,.int .i64 x.inn,.seq .terms x.out,.int .i64 x.code,.int .i64 x.steps,.seq .terms x.cond,.seq .ints x.turns]
 | .states,x=>[.int .i64 x.pc,.seq .ints x.regs,.seq .ints x.mem,.seq .ints x.stack,.int .i64 x.inn,.seq .ints x.out,.int .i64 x.code,.int .i64 x.steps]
def K.dec : (κ : K) -> List Dat -> Option κ.T
 | .ints,[.int .i64 n]=>some n
 | .bools,[.bool b]=>some b
 | .bytes,[.int .u8 n]=>some n
 | .strs,[.str s]=>some s
 | .intss,[.seq .ints l]=>some l
 | .inss,[.int .i64 a,.int .i64 b,.int .i64 c,.int .i64 d]=>some ⟨a,b,c,d⟩
 | .progs,[.int .i64 a,.int .i64 b,.int .i64 c,.seq .inss d]=>some ⟨a,b,c,d⟩
 | .facts,[.int .i64 a,.int .i64 b,.int .i64 c,.int .i64 d]=>some ⟨a,b,c,d⟩
 | .vals,[.str a,.int .i64 b,.int .i64 c]=>some ⟨a,b,c⟩
 | .terms,[.int .i64 a,.int .i64 b,.int .i64 c,.str d,.seq .terms e]=>some ⟨a,b,c,d,e⟩
 | .paths,[.int .i64 a,.seq .terms b,.seq .terms c,.seq .ints d,.int .i64 e,.seq .terms f,.int .i64 g,.int .i64 h,.seq .terms i,.seq .ints j]=>some ⟨a,b,c,d,e,f,g,h,i,j⟩
 | .states,[.int .i64 a,.seq .ints b,.seq .ints c,.seq .ints d,.int .i64 e,.seq .ints f,.int .i64 g,.int .i64 h]=>some ⟨a,b,c,d,e,f,g,h⟩
 | _,_=>none
theorem K.enc_length (κ : K) (x : κ.T) : (κ.enc x).length = κ.sz := by
 cases κ <;> rfl
theorem K.dec_enc {κ : K} {cs : List Dat} {x : κ.T} (h : κ.dec cs = some x) : κ.enc x = cs := by
 unfold K.dec at h
 split at h <;> first|(cases h;rfl)|(cases h)
def K.put1 : (κ : K) -> κ.T -> Nat -> Dat -> Option κ.T
 | .inss,x,j,.int .i64 n=>match j with
  | 0=>some ⟨n,x.a,x.b,x.c⟩
  | 1=>some ⟨x.op,n,x.b,x.c⟩
  | 2=>some ⟨x.op,x.a,n,x.c⟩
  | 3=>some ⟨x.op,x.a,x.b,n⟩
  | _=>none
 | .facts,x,j,.int .i64 n=>match j with
  | 0=>some ⟨n,x.a,x.b,x.n⟩
  | 1=>some ⟨x.kind,n,x.b,x.n⟩
  | 2=>some ⟨x.kind,x.a,n,x.n⟩
  | 3=>some ⟨x.kind,x.a,x.b,n⟩
  | _=>none
 | .progs,x,j,.int .i64 n=>match j with
  | 0=>some ⟨n,x.mem,x.inn,x.code⟩
  | 1=>some ⟨x.w,n,x.inn,x.code⟩
  | 2=>some ⟨x.w,x.mem,n,x.code⟩
  | _=>none
 | .states,x,j,.int .i64 n=>match j with
  | 0=>some ⟨n,x.regs,x.mem,x.stack,x.inn,x.out,x.code,x.steps⟩
  | 4=>some ⟨x.pc,x.regs,x.mem,x.stack,n,x.out,x.code,x.steps⟩
  | 6=>some ⟨x.pc,x.regs,x.mem,x.stack,x.inn,x.out,n,x.steps⟩
  | 7=>some ⟨x.pc,x.regs,x.mem,x.stack,x.inn,x.out,x.code,n⟩
  | _=>none
 | .vals,x,j,.int .i64 n=>match j with
  | 1=>some ⟨x.name,n,x.n⟩
  | 2=>some ⟨x.name,x.w,n⟩
  | _=>none
 | .terms,x,j,.int .i64 n=>match j with
  | 0=>some ⟨n,x.w,x.n,x.name,x.kids⟩
  | 1=>some ⟨x.op,n,x.n,x.name,x.kids⟩
  | 2=>some ⟨x.op,x.w,n,x.name,x.kids⟩
  | _=>none
 | .terms,x,3,.str s=>some ⟨x.op,x.w,x.n,s,x.kids⟩
 | .vals,x,0,.str s=>some ⟨s,x.w,x.n⟩
 | _,_,_,_=>none
theorem K.put1_enc {κ : K} {x y : κ.T} {j : Nat} {d : Dat} (h : κ.put1 x j d = some y) : κ.enc y = (κ.enc x).take j ++ [d] ++ (κ.enc x).drop (j + 1) := by
 unfold K.put1 at h
 split at h
 . split at h <;> first|(cases h;rfl)|(cases h)
 . split at h <;> first|(cases h;rfl)|(cases h)
 . split at h <;> first|(cases h;rfl)|(cases h)
 . split at h <;> first|(cases h;rfl)|(cases h)
 . split at h <;> first|(cases h;rfl)|(cases h)
 . split at h <;> first|(cases h;rfl)|(cases h)
 . cases h;rfl
 . cases h;rfl
 . cases h
theorem K.sz_pos (κ : K) : 0 < κ.sz := by cases κ <;> decide
def t6 (κ : K) (l : List κ.T) (k j : Nat) : Dat := (κ.enc (l.getD k κ.dflt)).getD j (.bool false)
inductive AV where
 | any
 | cell
 | dat (d : Dat)
 | nils
 | nilm
 | nilp
 | mp (i : Nat)
 | row (i : Nat)
 | ptr (i off : Nat)
 | eptr (κ : K) (x : κ.T) (j : Nat)
 | rptr (i k j sz : Nat)
 | agg (l : List AV)
 | tup (l : List AV)
 | fn (f : Nat) (caps : List AV)
inductive Blk where
 | box (cells : List AV)
 | row (T : Nat) (κ : K) (l : List κ.T) (shared : Bool)
 | tree (T : Nat) (κ : K) (l : List κ.T)
 | mp (l : List (ByteArray × Int)) (z : Bool)
 | it (l : List (ByteArray × Int)) (n : Nat) (z : Bool)
structure AState where
 n : Nat
 tm : Nat -> AV
 blk : Nat -> Option Blk
inductive TD where
 | int (k : IntKind)
 | bool
 | str
 | flds (l : List (Nat × Nat))
 | slice (elem : Nat) (κ : K)
 | ptr (elem : Nat)
 | iface
 | func
 | map
 | other
structure TyI where
 agg : Bool
 size : Nat
 bytes : Nat
 zero : List Value
 zeroD : List Dat
 desc : TD
def qal : List (Nat × List Value) := []
def qfk : List Nat := []
def qcc : List Nat := []
def bldT : Nat := 0
def hcell (h : Array Obj) (b o : Nat) : Option Value :=
 match h[b]? with
 | some (.cells c _ _)=>c[o]?
 | _=>none
theorem bK (w : World) (b o : Nat) : w.cell? ⟨b,o,none⟩ = hcell w.heap b o := by
 unfold World.cell? hcell;dsimp only;split <;> simp_all
theorem qm4 {h : Array Obj} {b o : Nat} {v : Value} (e : hcell h b o = some v) : b < h.size := by
 unfold hcell at e
 rcases Nat.lt_or_ge b h.size with h'|h'
 . exact h'
 . simp [Array.getElem?_eq_none h'] at e
theorem dE {h h' : Array Obj} {b : Nat} (e : h'[b]? = h[b]?) (o : Nat) : hcell h' b o = hcell h b o := by
 unfold hcell;rw [e]
inductive RepD (h : Array Obj) (Im : Nat -> Nat -> Prop) : Dat -> Value -> Prop
 | int (k : IntKind) (n : Int) : RepD h Im (.int k n) (.int k n)
 | bool (b : Bool) : RepD h Im (.bool b) (.bool b)
 | str (s : ByteArray) : RepD h Im (.str s) (.string s)
 | errN : RepD h Im (.err false) .nilIface
 | errS (t : TypeId) (x : Value) : RepD h Im (.err true) (.iface t x)
 | nof : RepD h Im .nof .nilFunc
 | clo (g : Nat) (caps : List CapD) (cs : Array Value) (bf ofs : Nat -> Nat) (cf : Nat -> Nat -> Value) (hsz : cs.size = caps.length)
  (hi : ∀ (j : Nat) k n,caps[j]? = some (CapD.int k n) -> cs[j]? = some (Value.int k n))
  (hp : ∀ (j : Nat) w m i code,caps[j]? = some (CapD.prog w m i code) -> cs[j]? = some (Value.pointer (some ⟨bf j,ofs j,none⟩)))
  (him : ∀ (j : Nat) w m i code,caps[j]? = some (CapD.prog w m i code) -> ∀ j',j' < 4 -> Im (bf j) (ofs j + j'))
  (hc : ∀ (j : Nat) w m i code,caps[j]? = some (CapD.prog w m i code) -> ∀ j',j' < 4 -> hcell h (bf j) (ofs j + j') = some (cf j j'))
  (hr : ∀ (j : Nat) w m i code,caps[j]? = some (CapD.prog w m i code) -> ∀ j',j' < 4 -> RepD h Im ((K.progs.enc ⟨w,m,i,code⟩).getD j' (.bool false)) (cf j j')) :
  RepD h Im (.clo g caps) (.func (.func g) #[] cs)
 | empty (κ : K) (l : List κ.T) (hl : l.length = 0) (a : Option Addr) (cap : Nat) : RepD h Im (.seq κ l) (.slice a 0 cap)
 | seq (κ : K) (l : List κ.T) (b o cap : Nat) (cf : Nat -> Nat -> Value) (hcap : l.length <= cap) (hmax : cap <= maxLen)
  (him : ∀ k j,k < l.length -> j < κ.sz -> Im b (o + k * κ.sz + j))
  (hc : ∀ k j,k < l.length -> j < κ.sz -> hcell h b (o + k * κ.sz + j) = some (cf k j))
  (hr : ∀ k j,k < l.length -> j < κ.sz -> RepD h Im (t6 κ l k j) (cf k j)) :
  RepD h Im (.seq κ l) (.slice (some ⟨b,o,none⟩) l.length cap)
inductive RepT (h : Array Obj) : Dat -> Value -> (Nat -> Prop) -> Prop
 | int (k : IntKind) (n : Int) (F : Nat -> Prop) : RepT h (.int k n) (.int k n) F
 | bool (b : Bool) (F : Nat -> Prop) : RepT h (.bool b) (.bool b) F
 | str (s : ByteArray) (F : Nat -> Prop) : RepT h (.str s) (.string s) F
 | nil (κ : K) (l : List κ.T) (hl : l.length = 0) (F : Nat -> Prop) : RepT h (.seq κ l) (.slice none 0 0) F
 | seq (κ : K) (l : List κ.T) (b cap T : Nat) (cs : Array Value) (cf : Nat -> Nat -> Value) (Fk : Nat -> Nat -> Nat -> Prop) (F : Nat -> Prop) (hcap : l.length <= cap) (hmax : cap <= maxLen)
  (hb : F b) (hh : h[b]? = some (.cells cs T (0,0))) (hsz : cap * κ.sz <= cs.size) (hsub : ∀ k j x,k < l.length -> j < κ.sz -> Fk k j x -> F x /\ x ≠ b)
  (hdis : ∀ k j k' j' x,k < l.length -> j < κ.sz -> k' < l.length -> j' < κ.sz -> Fk k j x -> Fk k' j' x -> k = k' /\ j = j')
  (hc : ∀ k j,k < l.length -> j < κ.sz -> cs[k * κ.sz + j]? = some (cf k j))
  (hr : ∀ k j,k < l.length -> j < κ.sz -> RepT h (t6 κ l k j) (cf k j) (Fk k j)) :
  RepT h (.seq κ l) (.slice (some ⟨b,0,none⟩) l.length cap) F
structure RI where
 b : Nat
 cap : Nat
 len : Nat
 fp : Nat -> Prop := fun _=>False
abbrev RI.at (b cap len : Nat) : RI := ⟨b,cap,len,fun _=>False⟩
def RI.has (r : RI) (x : Nat) : Prop := x = r.b \/ r.fp x
abbrev Rho := Nat -> Option RI
inductive AVR (ρ : Rho) (h : Array Obj) (Im : Nat -> Nat -> Prop) : AV -> Value -> Prop
 | any (v : Value) : AVR ρ h Im .any v
 | cell (v : Value) (hv : v.oneCell' = true) : AVR ρ h Im .cell v
 | dat (d : Dat) (v : Value) (hd : RepD h Im d v) : AVR ρ h Im (.dat d) v
 | nils : AVR ρ h Im .nils (.slice none 0 0)
 | row (i : Nat) (r : RI) (hi : ρ i = some r) : AVR ρ h Im (.row i) (.slice (some ⟨r.b,0,none⟩) r.len r.cap)
 | rowN (i : Nat) (hi : ρ i = none) : AVR ρ h Im (.row i) (.slice none 0 0)
 | nilm : AVR ρ h Im .nilm (.map none)
 | nilp : AVR ρ h Im .nilp (.pointer none)
 | mp (i : Nat) (r : RI) (hi : ρ i = some r) : AVR ρ h Im (.mp i) (.map (some r.b))
 | mpN (i : Nat) (hi : ρ i = none) : AVR ρ h Im (.mp i) (.map none)
 | ptr (i off : Nat) (r : RI) (hi : ρ i = some r) : AVR ρ h Im (.ptr i off) (.pointer (some ⟨r.b,off,none⟩))
 | eptr (κ : K) (x : κ.T) (j b o : Nat) (cf : Nat -> Value)
  (him : ∀ j',j' < κ.sz -> Im b (o + j')) (hc : ∀ j',j' < κ.sz -> hcell h b (o + j') = some (cf j'))
  (hr : ∀ j',j' < κ.sz -> RepD h Im ((κ.enc x).getD j' (.bool false)) (cf j')) :
  AVR ρ h Im (.eptr κ x j) (.pointer (some ⟨b,o + j,none⟩))
 | rptr (i k j sz : Nat) (r : RI) (hi : ρ i = some r) : AVR ρ h Im (.rptr i k j sz) (.pointer (some ⟨r.b,k * sz + j,none⟩))
 | agg (l : List AV) (cs : Array Value) (cf : Nat -> Value) (hl : cs.size = l.length)
  (hcf : ∀ j,j < l.length -> cs[j]? = some (cf j)) (hr : ∀ j a,l[j]? = some a -> AVR ρ h Im a (cf j)) : AVR ρ h Im (.agg l) (.agg cs)
 | tup (l : List AV) (cs : Array Value) (cf : Nat -> Value) (hl : cs.size = l.length)
  (hcf : ∀ j,j < l.length -> cs[j]? = some (cf j)) (hr : ∀ j a,l[j]? = some a -> AVR ρ h Im a (cf j)) : AVR ρ h Im (.tup l) (.tuple cs)
 | fn (f : Nat) (l : List AV) (cs : Array Value) (cf : Nat -> Value) (hl : cs.size = l.length)
  (hcf : ∀ j,j < l.length -> cs[j]? = some (cf j)) (hr : ∀ j a,l[j]? = some a -> AVR ρ h Im a (cf j)) :
  AVR ρ h Im (.fn f l) (.func (.func f) #[] cs)
section mono
variable {h h' : Array Obj} {Im Im' : Nat -> Nat -> Prop} {F : Nat -> Prop}
theorem RepD.mono (hc : ∀ b o,Im b o -> hcell h' b o = hcell h b o) (hI : ∀ b o,Im b o -> Im' b o) {d : Dat} {v : Value}
 (hr : RepD h Im d v) : RepD h' Im' d v := by
 induction hr with
 | int k n=>exact .int k n
 | bool b=>exact .bool b
 | str s=>exact .str s
 | errN=>exact .errN
 | errS t x=>exact .errS t x
 | nof=>exact .nof
 | clo g caps cs bf ofs cf hsz hi hp him hcc _ ih =>
  exact .clo g caps cs bf ofs cf hsz hi hp (fun j w m i code hj j' hj'=>hI _ _ (him j w m i code hj j' hj')) (fun j w m i code hj j' hj'=>(hc _ _ (him j w m i code hj j' hj')).trans (hcc j w m i code hj j' hj')) ih
 | empty κ l hl a cap=>exact .empty κ l hl a cap
 | seq κ l b o cap cf hcap hmax him hcc _ ih =>
  exact .seq κ l b o cap cf hcap hmax (fun k j hk hj=>hI _ _ (him k j hk hj)) (fun k j hk hj=>(hc _ _ (him k j hk hj)).trans (hcc k j hk hj))
   (fun k j hk hj=>ih k j hk hj)
theorem RepT.mono (hc : ∀ x,F x -> h'[x]? = h[x]?) {d : Dat} {v : Value} (hr : RepT h d v F) : RepT h' d v F := by
 induction hr with
 | int k n F=>exact .int k n F
 | bool b F=>exact .bool b F
 | str s F=>exact .str s F
 | nil κ l hl F=>exact .nil κ l hl F
 | seq κ l b cap T cs cf Fk F hcap hmax hb hh hsz hsub hdis hcc _ ih =>
  exact .seq κ l b cap T cs cf Fk F hcap hmax hb ((hc b hb).trans hh) hsz hsub hdis hcc (fun k j hk hj=>ih k j hk hj (fun x hx=>hc x (hsub k j x hk hj hx).1))
theorem RepT.sub {F' : Nat -> Prop} (hs : ∀ x,F x -> F' x) {d : Dat} {v : Value} (hr : RepT h d v F) : RepT h d v F' := by
 cases hr with
 | int k n F=>exact .int k n _
 | bool b F=>exact .bool b _
 | str s F=>exact .str s _
 | nil κ l hl F=>exact .nil κ l hl _
 | seq κ l b cap T cs cf Fk F hcap hmax hb hh hsz hsub hdis hcc hr =>
  exact .seq κ l b cap T cs cf Fk _ hcap hmax (hs b hb) hh hsz (fun k j x hk hj hx=>⟨hs x (hsub k j x hk hj hx).1,(hsub k j x hk hj hx).2⟩) hdis hcc hr
theorem RepT.melt (hI : ∀ x o,F x -> Im x o) {d : Dat} {v : Value} (hr : RepT h d v F) : RepD h Im d v := by
 induction hr with
 | int k n F=>exact .int k n
 | bool b F=>exact .bool b
 | str s F=>exact .str s
 | nil κ l hl F=>exact .empty κ l hl none 0
 | seq κ l b cap T cs cf Fk F hcap hmax hb hh hsz hsub hdis hcc _ ih =>
  exact .seq κ l b 0 cap cf hcap hmax (fun k j hk hj=>hI _ _ hb) (fun k j hk hj=>by rw [Nat.zero_add];simp [hcell,hh,hcc k j hk hj]) (fun k j hk hj=>ih k j hk hj (fun x o hx=>hI x o (hsub k j x hk hj hx).1))
theorem AVR.mono {ρ : Rho} (hc : ∀ b o,Im b o -> hcell h' b o = hcell h b o) (hI : ∀ b o,Im b o -> Im' b o) {a : AV} {v : Value}
 (hr : AVR ρ h Im a v) : AVR ρ h' Im' a v := by
 induction hr with
 | any v=>exact .any v
 | cell v hv=>exact .cell v hv
 | dat d v hd=>exact .dat d v (hd.mono hc hI)
 | nils=>exact .nils
 | row i r hi=>exact .row i r hi
 | rowN i hi=>exact .rowN i hi
 | nilm=>exact .nilm
 | nilp=>exact .nilp
 | mp i r hi=>exact .mp i r hi
 | mpN i hi=>exact .mpN i hi
 | ptr i off r hi=>exact .ptr i off r hi
 | eptr κ x j b o cf him hcc hr =>
  exact .eptr κ x j b o cf (fun j' hj=>hI _ _ (him j' hj)) (fun j' hj=>(hc _ _ (him j' hj)).trans (hcc j' hj)) (fun j' hj=>(hr j' hj).mono hc hI)
 | rptr i k j sz r hi=>exact .rptr i k j sz r hi
 | agg l cs cf hl hcf _ ih=>exact .agg l cs cf hl hcf ih
 | tup l cs cf hl hcf _ ih=>exact .tup l cs cf hl hcf ih
 | fn f l cs cf hl hcf _ ih=>exact .fn f l cs cf hl hcf ih
end mono
/-! ### forgetting a block -/
def AV.killC (i : Nat) : AV -> AV
 | .row j=>match Nat.beq j i with|true => .cell|false => .row j
 | .mp j=>match Nat.beq j i with|true => .cell|false => .mp j
 | .nilm => .nilm
 | .nilp => .nilp
 | .ptr j o=>match Nat.beq j i with|true => .cell|false => .ptr j o
 | .rptr j k o sz=>match Nat.beq j i with|true => .cell|false => .rptr j k o sz
 | .dat d => .dat d
 | .nils => .nils
 | .cell => .cell
 | .eptr κ x j => .eptr κ x j
 | _ => .any
def AV.killM (i : Nat) : AV -> AV
 | .agg l => .agg (l.map (AV.killC i))
 | .fn f l => .fn f (l.map (AV.killC i))
 | .row j=>match Nat.beq j i with|true => .cell|false => .row j
 | .mp j=>match Nat.beq j i with|true => .cell|false => .mp j
 | .nilm => .nilm
 | .nilp => .nilp
 | .ptr j o=>match Nat.beq j i with|true => .cell|false => .ptr j o
 | .rptr j k o sz=>match Nat.beq j i with|true => .cell|false => .rptr j k o sz
 | .dat d => .dat d
 | .nils => .nils
 | .cell => .cell
 | .eptr κ x j => .eptr κ x j
 | .any => .any
 | .tup _ => .any
def AV.kill (i : Nat) : AV -> AV
 | .tup l => .tup (l.map (AV.killM i))
 | .agg l => .agg (l.map (AV.killC i))
 | .fn f l => .fn f (l.map (AV.killC i))
 | .row j=>match Nat.beq j i with|true => .cell|false => .row j
 | .mp j=>match Nat.beq j i with|true => .cell|false => .mp j
 | .nilm => .nilm
 | .nilp => .nilp
 | .ptr j o=>match Nat.beq j i with|true => .cell|false => .ptr j o
 | .rptr j k o sz=>match Nat.beq j i with|true => .cell|false => .rptr j k o sz
 | .dat d => .dat d
 | .nils => .nils
 | .cell => .cell
 | .eptr κ x j => .eptr κ x j
 | .any => .any
section kill
variable {h : Array Obj} {Im : Nat -> Nat -> Prop} {ρ ρ' : Rho} {i : Nat}
theorem AVR.killC (hρ : ∀ j,j ≠ i -> ρ' j = ρ j) {a : AV} {v : Value} (hr : AVR ρ h Im a v) : AVR ρ' h Im (a.killC i) v := by
 cases hr with
 | any v=>exact .any v
 | cell v hv=>exact .cell v hv
 | dat d v hd=>exact .dat d v hd
 | nils=>exact .nils
 | row j r hi =>
  simp only [AV.killC];split
  . exact .cell _ rfl
  . rename_i hb;exact .row j r (by rw [hρ j (fun e=>by subst e;simp at hb)];exact hi)
 | rowN j hi =>
  simp only [AV.killC];split
  . exact .cell _ rfl
  . rename_i hb;exact .rowN j (by rw [hρ j (fun e=>by subst e;simp at hb)];exact hi)
 | nilm=>exact .nilm
 | nilp=>exact .nilp
 | mp j r hi =>
  simp only [AV.killC];split
  . exact .cell _ rfl
  . rename_i hb;exact .mp j r (by rw [hρ j (fun e=>by subst e;simp at hb)];exact hi)
 | mpN j hi =>
  simp only [AV.killC];split
  . exact .cell _ rfl
  . rename_i hb;exact .mpN j (by rw [hρ j (fun e=>by subst e;simp at hb)];exact hi)
 | ptr j off r hi =>
  simp only [AV.killC];split
  . exact .cell _ rfl
  . rename_i hb;exact .ptr j off r (by rw [hρ j (fun e=>by subst e;simp at hb)];exact hi)
 | eptr κ x j b o cf him hcc hr=>exact .eptr κ x j b o cf him hcc hr
 | rptr j k o sz r hi =>
  simp only [AV.killC];split
  . exact .cell _ rfl
  . rename_i hb;exact .rptr j k o sz r (by rw [hρ j (fun e=>by subst e;simp at hb)];exact hi)
 | agg=>exact .any _
 | tup=>exact .any _
 | fn=>exact .any _
theorem qdi (hρ : ∀ j,j ≠ i -> ρ' j = ρ j) {l : List AV} {cf : Nat -> Value} (hr : ∀ j a,l[j]? = some a -> AVR ρ h Im a (cf j)) :
 ∀ j a,(l.map (AV.killC i))[j]? = some a -> AVR ρ' h Im a (cf j) := by
 intro j a ha
 rw [List.getElem?_map] at ha
 cases hl : l[j]? with
 | none=>simp [hl] at ha
 | some b=>simp [hl] at ha;subst ha;exact (hr j b hl).killC hρ
theorem AVR.killM (hρ : ∀ j,j ≠ i -> ρ' j = ρ j) {a : AV} {v : Value} (hr : AVR ρ h Im a v) : AVR ρ' h Im (a.killM i) v := by
 cases hr with
 | agg l cs cf hl hcf hr=>exact .agg _ cs cf (by simpa using hl) (by simpa using hcf) (qdi hρ hr)
 | tup l cs cf hl hcf hr=>exact .any _
 | fn f l cs cf hl hcf hr=>exact .fn f _ cs cf (by simpa using hl) (by simpa using hcf) (qdi hρ hr)
 | any v=>exact .any v
 | cell v hv=>exact .cell v hv
 | dat d v hd=>exact .dat d v hd
 | nils=>exact .nils
 | row j r hi=>exact (AVR.row j r hi).killC hρ
 | rowN j hi=>exact (AVR.rowN j hi).killC hρ
 | nilm=>exact .nilm
 | nilp=>exact .nilp
 | mp j r hi=>exact (AVR.mp j r hi).killC hρ
 | mpN j hi=>exact (AVR.mpN j hi).killC hρ
 | ptr j off r hi=>exact (AVR.ptr j off r hi).killC hρ
 | eptr κ x j b o cf him hcc hr=>exact .eptr κ x j b o cf him hcc hr
 | rptr j k o sz r hi=>exact (AVR.rptr j k o sz r hi).killC hρ
theorem AVR.kill (hρ : ∀ j,j ≠ i -> ρ' j = ρ j) {a : AV} {v : Value} (hr : AVR ρ h Im a v) : AVR ρ' h Im (a.kill i) v := by
 cases hr with
 | tup l cs cf hl hcf hr =>
  refine .tup _ cs cf (by simpa using hl) (by simpa using hcf) (fun j a ha=>?_)
  rw [List.getElem?_map] at ha
  cases hl : l[j]? with
  | none=>simp [hl] at ha
  | some b=>simp [hl] at ha;subst ha;exact (hr j b hl).killM hρ
 | agg l cs cf hl hcf hr=>exact (AVR.agg l cs cf hl hcf hr).killM hρ
 | fn f l cs cf hl hcf hr=>exact (AVR.fn f l cs cf hl hcf hr).killM hρ
 | any v=>exact .any v
 | cell v hv=>exact .cell v hv
 | dat d v hd=>exact .dat d v hd
 | nils=>exact .nils
 | row j r hi=>exact (AVR.row j r hi).killC hρ
 | rowN j hi=>exact (AVR.rowN j hi).killC hρ
 | nilm=>exact .nilm
 | nilp=>exact .nilp
 | mp j r hi=>exact (AVR.mp j r hi).killC hρ
 | mpN j hi=>exact (AVR.mpN j hi).killC hρ
 | ptr j off r hi=>exact (AVR.ptr j off r hi).killC hρ
 | eptr κ x j b o cf him hcc hr=>exact .eptr κ x j b o cf him hcc hr
 | rptr j k o sz r hi=>exact (AVR.rptr j k o sz r hi).killC hρ
end kill
/-! ### blocks -/
def MapR (es : Array MapEntry) (l : List (ByteArray × Int)) : Prop := es.toList.map (fun e=>(e.key,e.val)) = l.map fun x=>(Value.string x.1,Value.int .i64 x.2)
def Stamps (es : Array MapEntry) (clock : Nat) : Prop := ∀ e ∈ es.toList,e.born < clock
structure ItR (h : Array Obj) (r : RI) (l : List (ByteArray × Int)) (n : Nat) (z : Bool) : Prop where
 ex : ∃ (bm : Option Nat) (since c0 : Nat) (seen : Array Nat),h[r.b]? = some (.mapIter bm since seen c0) /\ (bm = none -> n = 0 /\ z = false) /\
  ∀ m,bm = some m -> r.fp m /\ ∃ (es : Array MapEntry) (clock : Nat),h[m]? = some (.map es clock) /\ MapR es l /\ Stamps es since /\ since <= c0 /\ since <= clock /\ (es.filter fun e => !seen.contains e.born).size = n /\
   (z = true -> c0 = clock /\ ∃ e ∈ es.toList,seen.back? = some e.born)
theorem ItR.mono {h h' : Array Obj} {r : RI} {l : List (ByteArray × Int)} {n : Nat} {z : Bool} (H : ItR h r l n z) (hb : ∀ x,r.has x -> h'[x]? = h[x]?) : ItR h' r l n z := by
 obtain ⟨bm,since,c0,seen,h1,h2,h3⟩ := H.ex
 exact ⟨bm,since,c0,seen,(hb _ (.inl rfl)).trans h1,h2,fun m e=>let ⟨a,es,c,h4,h5⟩ := h3 m e;⟨a,es,c,(hb _ (.inr a)).trans h4,h5⟩⟩
def tyB (κ : K) (T T0 : Nat) : Nat := match κ with
 | .bytes=>T
 | _=>T0
theorem qia (κ : K) (T : Nat) : tyB κ T T = T := by cases κ <;> rfl
def mB : List AV -> Bool
 | [.nilp,.nils]=>true
 | _=>false
theorem qdu {f : AV -> AV} (h1 : ∀ a,f a = .nilp -> a = .nilp) (h2 : ∀ a,f a = .nils -> a = .nils) {l : List AV} (h : mB (l.map f) = true) : mB l = true := by
 match l,h with
 | [],h=>exact h
 | [_],h=>simp [mB] at h
 | [a,b],h =>
  have : f a = .nilp /\ f b = .nils := by
   simp only [List.map_cons,List.map_nil] at h
   unfold mB at h
   split at h
   . rename_i e;injection e with e1 e2;injection e2 with e2 _;exact ⟨e1,e2⟩
   . cases h
  rw [h1 a this.1,h2 b this.2];rfl
 | _ :: _ :: _ :: _,h=>simp [mB] at h
def bldN (cells : List AV) (T : Nat) : Bool := match mB cells with|true=>Nat.beq T bldT|false=>true
structure BxS (cells : List AV) (cs : Array Value) (T : Nat) : Prop where
 len : cs.size = cells.length
 bld : mB cells = true -> T = bldT
theorem BxS.map {f : AV -> AV} {cells : List AV} {cs : Array Value} {T : Nat} (h : BxS cells cs T) (h1 : ∀ a,f a = .nilp -> a = .nilp) (h2 : ∀ a,f a = .nils -> a = .nils) : BxS (cells.map f) cs T :=
 ⟨by rw [List.length_map];exact h.len,fun h'=>h.bld (qdu h1 h2 h')⟩
def BlkR (ρ : Rho) (h : Array Obj) (Im : Nat -> Nat -> Prop) (i : Nat) : Blk -> Prop
 | .box cells=>∃ (r : RI) (cs : Array Value) (T : Nat),ρ i = some r /\ h[r.b]? = some (.cells cs T (0,0)) /\ BxS cells cs T /\
  ∀ (j : Nat) (a : AV),cells[j]? = some a -> ∃ c : Value,cs[j]? = some c /\ AVR ρ h Im a c
 | .row T κ l _=>match ρ i with
  | none=>l.length = 0
  | some r=>r.len = l.length /\ r.len <= r.cap /\ r.cap <= maxLen /\ ∃ (cs : Array Value) (T0 : Nat),h[r.b]? = some (.cells cs (tyB κ T T0) (0,0)) /\ r.cap * κ.sz <= cs.size /\
   ∀ k j,k < l.length -> j < κ.sz -> ∃ c : Value,cs[k * κ.sz + j]? = some c /\ RepD h Im (t6 κ l k j) c
 | .tree _ κ l=>match ρ i with
  | none=>l.length = 0
  | some r=>r.len = l.length /\ r.len <= r.cap /\ r.cap <= maxLen /\ ∃ (cs : Array Value) (Fk : Nat -> Nat -> Nat -> Prop) (T0 : Nat),h[r.b]? = some (.cells cs T0 (0,0)) /\ r.cap * κ.sz <= cs.size /\
   (∀ k j x,k < l.length -> j < κ.sz -> Fk k j x -> r.fp x /\ x ≠ r.b) /\
   (∀ k j k' j' x,k < l.length -> j < κ.sz -> k' < l.length -> j' < κ.sz -> Fk k j x -> Fk k' j' x -> k = k' /\ j = j') /\
   ∀ k j,k < l.length -> j < κ.sz -> ∃ c : Value,cs[k * κ.sz + j]? = some c /\ RepT h (t6 κ l k j) c (Fk k j)
 | .mp l z=>match ρ i with
  | none=>z = true /\ l = []
  | some r=>z = false /\ ∃ (es : Array MapEntry) (clock : Nat),h[r.b]? = some (.map es clock) /\ MapR es l /\ Stamps es clock
 | .it l n z=>∃ r : RI,ρ i = some r /\ ItR h r l n z
def Blk.kill (i : Nat) : Blk -> Blk
 | .box cells => .box (cells.map (AV.killC i))
 | b=>b
def Blk.pinned : Blk -> Nat
 | .row _ κ l true=>l.length * κ.sz
 | _=>0
structure Env (B : Nat -> Option Blk) (ρ : Rho) (Im : Nat -> Nat -> Prop) (h : Array Obj) : Prop where
 bl : ∀ i b,B i = some b -> BlkR ρ h Im i b
 inj : ∀ i j r s x,B i ≠ none -> B j ≠ none -> ρ i = some r -> ρ j = some s -> r.has x -> s.has x -> i = j
 fpNe : ∀ i r,B i ≠ none -> ρ i = some r -> ¬ r.fp r.b
 fpLt : ∀ i r x,B i ≠ none -> ρ i = some r -> r.fp x -> x < h.size
 fpIm : ∀ i r x o,B i ≠ none -> ρ i = some r -> r.fp x -> ¬ Im x o
 imlt : ∀ b o,Im b o -> b < h.size
 imOwn : ∀ i blk r o,B i = some blk -> ρ i = some r -> (Im r.b o ↔ o < blk.pinned)
structure GP where
 g : Nat -> Prop
 pin : Nat -> Option (Option RI)
 lt : ∀ i,i < 900000 -> pin i = none
instance : CoeFun GP (fun _=>Nat -> Prop) := ⟨GP.g⟩
def GP.nil : GP := ⟨fun _=>False,fun _=>none,fun _ _=>rfl⟩
structure Ext (w0 : World) (G : GP) (Im0 : Nat -> Nat -> Prop) (B : Nat -> Option Blk) (ρ : Rho) (Im : Nat -> Nat -> Prop) (w : World) : Prop where
 own : ∀ i r x,B i ≠ none -> ρ i = some r -> r.has x -> G x \/ w0.heap.size <= x
 im0 : ∀ b o,Im0 b o -> Im b o
 imNew : ∀ b o,Im b o -> Im0 b o \/ G b \/ w0.heap.size <= b
 keep : ∀ b o,Im0 b o -> hcell w.heap b o = hcell w0.heap b o
 frame : ∀ b,b < w0.heap.size -> ¬ G b -> w.heap[b]? = w0.heap[b]?
 grow : w0.heap.size <= w.heap.size
 os : w.os = w0.os
 tape : w.tape = w0.tape
 output : w.output = w0.output
 pin : ∀ i p,G.pin i = some p -> B i ≠ none -> ρ i = p
structure TabH (h : Array Obj) (Im : Nat -> Nat -> Prop) : Prop where
 tab : ∀ t,t ∈ qal -> ∀ i,i <= t.2.length -> Im t.1 i /\ hcell h t.1 i = t.2[i]?
 err : ∀ g,g ∈ qfk -> Im g 0 /\ ∃ v,hcell h g 0 = some v /\ (v = .nilIface \/ ∃ t x,v = .iface t x)
 num : ∀ g,g ∈ qcc -> Im g 0 /\ ∃ m,hcell h g 0 = some (.int .i64 m)
theorem TabH.ext {h h' : Array Obj} {Im Im' : Nat -> Nat -> Prop} (T : TabH h Im) (hI : ∀ b o,Im b o -> Im' b o) (hk : ∀ b o,Im b o -> hcell h' b o = hcell h b o) : TabH h' Im' :=
 ⟨fun t ht i hi=>⟨hI _ _ (T.tab t ht i hi).1,(hk _ _ (T.tab t ht i hi).1).trans (T.tab t ht i hi).2⟩,fun g hg=>by
  obtain ⟨h1,v,h2,h3⟩ := T.err g hg
  exact ⟨hI _ _ h1,v,(hk _ _ h1).trans h2,h3⟩,fun g hg=>by
  obtain ⟨h1,m,h2⟩ := T.num g hg
  exact ⟨hI _ _ h1,m,(hk _ _ h1).trans h2⟩⟩
structure ImOk (h : Array Obj) (Im : Nat -> Nat -> Prop) : Prop where
 lt : ∀ b o,Im b o -> b < h.size
 tab : TabH h Im
structure Rel (w0 : World) (G : GP) (Im0 : Nat -> Nat -> Prop) (S : AState) (ρ : Rho) (Im : Nat -> Nat -> Prop) (a : Act) (w : World) : Prop where
 defers : a.defers = []
 size : a.tmps.size = S.n
 tm : ∀ t,AVR ρ w.heap Im (S.tm t) (a.tmps.getD t undef)
 env : Env S.blk ρ Im w.heap
 ext : Ext w0 G Im0 S.blk ρ Im w
theorem Rel.tab {w0 : World} {G : GP} {Im0 : Nat -> Nat -> Prop} {S : AState} {ρ : Rho} {Im : Nat -> Nat -> Prop} {a : Act} {w : World} [hT : Nonempty (TabH w0.heap Im0)] (hR : Rel w0 G Im0 S ρ Im a w) : TabH w.heap Im :=
 hT.elim fun t=>t.ext hR.ext.im0 hR.ext.keep
def o5 (w0 : World) (G : GP) (Im0 : Nat -> Nat -> Prop) (S : AState) (a : Act) (w : World) : Prop :=
 ∃ ρ Im,Rel w0 G Im0 S ρ Im a w
def updB (B : Nat -> Option Blk) (i : Nat) (b : Option Blk) : Nat -> Option Blk := fun j=>match Nat.beq j i with|true=>b|false=>B j
theorem updB_same (B : Nat -> Option Blk) (i : Nat) (b : Option Blk) : updB B i b i = b := by simp [updB]
theorem updB_ne {B : Nat -> Option Blk} {i j : Nat} (b : Option Blk) (hne : j ≠ i) : updB B i b j = B j := by
 have : Nat.beq j i = false := by cases hb : Nat.beq j i with|false=>rfl|true=>exact absurd (Nat.eq_of_beq_eq_true hb) hne
 simp [updB,this]
def g7 (B : Nat -> Option Blk) (i : Nat) : Nat -> Option Blk := fun j=>match Nat.beq j i with
 | true=>none
 | false=>match B j with
  | none=>none
  | some (.box cells)=>some (.box (cells.map (AV.killC i)))
  | some (.row T κ l sh)=>some (.row T κ l sh)
  | some (.tree T κ l)=>some (.tree T κ l)
  | some (.mp l z)=>some (.mp l z)
  | some (.it l n z)=>some (.it l n z)
theorem killB_same (B : Nat -> Option Blk) (i : Nat) : g7 B i i = none := by simp [g7]
theorem killB_ne {B : Nat -> Option Blk} {i j : Nat} (hne : j ≠ i) : g7 B i j = (B j).map (Blk.kill i) := by
 have : Nat.beq j i = false := by cases hb : Nat.beq j i with|false=>rfl|true=>exact absurd (Nat.eq_of_beq_eq_true hb) hne
 simp only [g7,this]
 cases B j with
 | none=>rfl
 | some b=>cases b <;> rfl
def o8 (ρ : Rho) (i : Nat) (r : Option RI) : Rho := fun j=>if j = i then r else ρ j
theorem updR_same (ρ : Rho) (i : Nat) (r : Option RI) : o8 ρ i r i = r := by simp [o8]
theorem bD {ρ : Rho} {i j : Nat} (r : Option RI) (hne : j ≠ i) : o8 ρ i r j = ρ j := by simp [o8,hne]
def AState.kill (S : AState) (i : Nat) : AState := match S with|⟨n,tm,blk⟩=>⟨n,fun t=>(tm t).kill i,g7 blk i⟩
section
variable {B : Nat -> Option Blk} {ρ ρ' : Rho} {Im Im' : Nat -> Nat -> Prop} {h h' : Array Obj} {i : Nat} {blk blk' : Blk}
theorem BlkR.mono (hb : ∀ r x,ρ i = some r -> r.has x -> h'[x]? = h[x]?) (hc : ∀ b o,Im b o -> hcell h' b o = hcell h b o) (hI : ∀ b o,Im b o -> Im' b o)
 (hB : BlkR ρ h Im i blk) : BlkR ρ h' Im' i blk := by
 cases blk with
 | box cells =>
  obtain ⟨r,cs,T,hr,hh,hsz,hcs⟩ := hB
  exact ⟨r,cs,T,hr,(hb r _ hr (.inl rfl)).trans hh,hsz,fun j a ha=>let ⟨c,hc1,hc2⟩ := hcs j a ha;⟨c,hc1,hc2.mono hc hI⟩⟩
 | row T κ l sh =>
  simp only [BlkR] at hB ⊢
  cases hr : ρ i with
  | none=>rw [hr] at hB;exact hB
  | some r =>
   rw [hr] at hB
   obtain ⟨h1,h2,h3,cs,T0,hh,hsz,hcs⟩ := hB
   exact ⟨h1,h2,h3,cs,T0,(hb r _ hr (.inl rfl)).trans hh,hsz,fun k j hk hj=>let ⟨c,hc1,hc2⟩ := hcs k j hk hj;⟨c,hc1,hc2.mono hc hI⟩⟩
 | tree T κ l =>
  simp only [BlkR] at hB ⊢
  cases hr : ρ i with
  | none=>rw [hr] at hB;exact hB
  | some r =>
   rw [hr] at hB
   obtain ⟨h1,h2,h3,cs,Fk,T0,hh,hsz,hF,hD,hcs⟩ := hB
   exact ⟨h1,h2,h3,cs,Fk,T0,(hb r _ hr (.inl rfl)).trans hh,hsz,hF,hD,fun k j hk hj=>let ⟨c,hc1,hc2⟩ := hcs k j hk hj;⟨c,hc1,hc2.mono fun x hx=>hb r x hr (.inr (hF k j x hk hj hx).1)⟩⟩
 | mp l z =>
  simp only [BlkR] at hB ⊢
  cases hr : ρ i with
  | none=>rw [hr] at hB;exact hB
  | some r =>
   rw [hr] at hB
   obtain ⟨h1,es,clock,hh,hm⟩ := hB
   exact ⟨h1,es,clock,(hb r _ hr (.inl rfl)).trans hh,hm⟩
 | it l n z =>
  obtain ⟨r,hr,H⟩ := hB
  exact ⟨r,hr,H.mono fun x hx=>hb r x hr hx⟩
theorem BlkR.kill {j : Nat} (hρ : ∀ j,j ≠ i -> ρ' j = ρ j) (hj : j ≠ i) (hB : BlkR ρ h Im j blk) : BlkR ρ' h Im j (blk.kill i) := by
 cases blk with
 | box cells =>
  obtain ⟨r,cs,T,hr,hh,hsz,hcs⟩ := hB
  refine ⟨r,cs,T,(hρ j hj).trans hr,hh,hsz.map (fun a=>by cases a <;> simp [AV.killC] <;> split <;> simp) (fun a=>by cases a <;> simp [AV.killC] <;> split <;> simp),fun k a ha=>?_⟩
  rw [List.getElem?_map] at ha
  cases hl : cells[k]? with
  | none=>simp [hl] at ha
  | some b =>
   simp [hl] at ha;subst ha
   obtain ⟨c,hc1,hc2⟩ := hcs k b hl
   exact ⟨c,hc1,hc2.killC hρ⟩
 | row T κ l sh =>
  simp only [BlkR,Blk.kill] at hB ⊢
  rw [hρ j hj];exact hB
 | tree T κ l =>
  simp only [BlkR,Blk.kill] at hB ⊢
  rw [hρ j hj];exact hB
 | mp l z =>
  simp only [BlkR,Blk.kill] at hB ⊢
  rw [hρ j hj];exact hB
 | it l n z =>
  simp only [BlkR,Blk.kill] at hB ⊢
  rw [hρ j hj];exact hB
theorem Blk.kill_pinned : (blk.kill i).pinned = blk.pinned := by cases blk <;> rfl
theorem Env.heap (E : Env B ρ Im h) (hb : ∀ i r x,B i ≠ none -> ρ i = some r -> r.has x -> h'[x]? = h[x]?) (hc : ∀ b o,Im b o -> hcell h' b o = hcell h b o)
 (hs : h.size <= h'.size) : Env B ρ Im h' :=
 ⟨fun i b hi=>(E.bl i b hi).mono (fun r x hr hx=>hb i r x (by simp [hi]) hr hx) hc (fun _ _ x=>x),E.inj,E.fpNe,fun i r x hi hr hx=>Nat.lt_of_lt_of_le (E.fpLt i r x hi hr hx) hs,E.fpIm,fun b o hI=>Nat.lt_of_lt_of_le (E.imlt b o hI) hs,E.imOwn⟩
theorem Env.kill (E : Env B ρ Im h) (hρ : ∀ j,j ≠ i -> ρ' j = ρ j) : Env (g7 B i) ρ' Im h := by
 have ne : ∀ {j b},g7 B i j = some b -> j ≠ i := fun {j b} hj e=>by subst e;rw [killB_same] at hj;cases hj
 have ne' : ∀ {j},g7 B i j ≠ none -> j ≠ i := fun {j} hj e=>by subst e;exact hj (killB_same _ _)
 have nn : ∀ {j},g7 B i j ≠ none -> B j ≠ none := fun {j} hj e=>by rw [killB_ne (ne' hj),e] at hj;exact hj rfl
 refine ⟨fun j b hj=>?_,fun j k r s x hj hk hr hs hx hy=>?_,fun j r hj hr=>E.fpNe j r (nn hj) ((hρ j (ne' hj)).symm.trans hr),fun j r x hj hr=>E.fpLt j r x (nn hj) ((hρ j (ne' hj)).symm.trans hr),
  fun j r x o hj hr=>E.fpIm j r x o (nn hj) ((hρ j (ne' hj)).symm.trans hr),E.imlt,fun j b r o hj hr=>?_⟩
 . have hne := ne hj
   rw [killB_ne hne] at hj
   cases hB : B j with
   | none=>simp [hB] at hj
   | some c=>simp [hB] at hj;subst hj;exact (E.bl j c hB).kill hρ hne
 . exact E.inj j k r s x (nn hj) (nn hk) ((hρ j (ne' hj)).symm.trans hr) ((hρ k (ne' hk)).symm.trans hs) hx hy
 . have hne := ne hj
   rw [killB_ne hne] at hj
   cases hB : B j with
   | none=>simp [hB] at hj
   | some c =>
    simp [hB] at hj;subst hj
    rw [Blk.kill_pinned]
    exact E.imOwn j c r o hB ((hρ j hne).symm.trans hr)
theorem Env.drop (E : Env B ρ Im h) : Env (updB B i none) ρ Im h := by
 have nn : ∀ {j b},updB B i none j = some b -> B j = some b := fun {j b} hj=>by
  by_cases hne : j = i
  . subst hne;rw [updB_same] at hj;cases hj
  . rwa [updB_ne _ hne] at hj
 have nn' : ∀ {j},updB B i none j ≠ none -> B j ≠ none := fun {j} hj e=>by
  by_cases hne : j = i
  . subst hne;exact hj (updB_same _ _ _)
  . rw [updB_ne _ hne] at hj;exact hj e
 exact ⟨fun j b hj=>E.bl j b (nn hj),fun j k r s x hj hk=>E.inj j k r s x (nn' hj) (nn' hk),fun j r hj=>E.fpNe j r (nn' hj),fun j r x hj=>E.fpLt j r x (nn' hj),fun j r x o hj=>E.fpIm j r x o (nn' hj),E.imlt,fun j b r o hj=>E.imOwn j b r o (nn hj)⟩
theorem Env.insert (E : Env B ρ Im h) (hi : B i = none) (hB : BlkR ρ h Im i blk)
 (hI : ∀ r o,ρ i = some r -> (Im r.b o ↔ o < blk.pinned)) (hf : ∀ r,ρ i = some r -> ¬ r.fp r.b /\ ∀ x,r.fp x -> x < h.size /\ ∀ o,¬ Im x o)
 (hne : ∀ r j s x,ρ i = some r -> B j ≠ none -> ρ j = some s -> s.has x -> ¬ r.has x) :
 Env (updB B i (some blk)) ρ Im h := by
 have nn : ∀ {j},j ≠ i -> updB B i (some blk) j ≠ none -> B j ≠ none := fun {j} e hj=>by rwa [updB_ne _ e] at hj
 refine ⟨fun j b hj=>?_,fun j k r s x hj hk hr hs hx hy=>?_,fun j r hj hr=>?_,fun j r x hj hr hx=>?_,fun j r x o hj hr hx=>?_,E.imlt,fun j b r o hj hr=>?_⟩
 . by_cases e : j = i
   . subst e;rw [updB_same] at hj;cases hj;exact hB
   . rw [updB_ne _ e] at hj;exact E.bl j b hj
 . by_cases e : j = i
   . subst e
     by_cases e' : k = j
     . exact e'.symm
     . exact absurd hx (hne r k s x hr (nn e' hk) hs hy)
   . by_cases e' : k = i
     . subst e';exact absurd hy (hne s j r x hs (nn e hj) hr hx)
     . exact E.inj j k r s x (nn e hj) (nn e' hk) hr hs hx hy
 . by_cases e : j = i
   . subst e;exact (hf r hr).1
   . exact E.fpNe j r (nn e hj) hr
 . by_cases e : j = i
   . subst e;exact ((hf r hr).2 x hx).1
   . exact E.fpLt j r x (nn e hj) hr hx
 . by_cases e : j = i
   . subst e;exact ((hf r hr).2 x hx).2 o
   . exact E.fpIm j r x o (nn e hj) hr hx
 . by_cases e : j = i
   . subst e;rw [updB_same] at hj;cases hj;exact hI r o hr
   . rw [updB_ne _ e] at hj;exact E.imOwn j b r o hj hr
theorem Env.write {r : RI} (E : Env B ρ Im h) (hi : B i = some blk) (hr : ρ i = some r) (hk : ∀ k,k ≠ r.b -> h'[k]? = h[k]?)
 (hIm : ∀ o,Im r.b o -> hcell h' r.b o = hcell h r.b o) (hs : h.size <= h'.size) (hI : ∀ b o,Im b o -> Im' b o) (hI' : ∀ b o,Im' b o -> Im b o \/ b = r.b)
 (hB : BlkR ρ h' Im' i blk') (hp : ∀ o,Im' r.b o ↔ o < blk'.pinned) : Env (updB B i (some blk')) ρ Im' h' := by
 have hc : ∀ b o,Im b o -> hcell h' b o = hcell h b o := fun b o hI=>by
  by_cases e : b = r.b
  . subst e;exact hIm o hI
  . exact dE (hk b e) o
 have hrb : r.b < h.size := by
  have := E.bl i blk hi
  cases blk with
  | box cells=>obtain ⟨r',cs,T,hr',hh,_⟩ := this;rw [hr] at hr';cases hr';exact (Array.getElem?_eq_some_iff.1 hh).1
  | row T κ l sh=>simp only [BlkR,hr] at this;obtain ⟨_,_,_,cs,T0,hh,_⟩ := this;exact (Array.getElem?_eq_some_iff.1 hh).1
  | tree T κ l=>simp only [BlkR,hr] at this;obtain ⟨_,_,_,cs,_,T0,hh,_⟩ := this;exact (Array.getElem?_eq_some_iff.1 hh).1
  | mp l z=>simp only [BlkR,hr] at this;obtain ⟨_,es,c,hh,_⟩ := this;exact (Array.getElem?_eq_some_iff.1 hh).1
  | it l n z=>obtain ⟨r',hr',H⟩ := this;rw [hr] at hr';cases hr';obtain ⟨_,_,_,_,hh,_⟩ := H.ex;exact (Array.getElem?_eq_some_iff.1 hh).1
 have nn : ∀ {j},updB B i (some blk') j ≠ none -> B j ≠ none := fun {j} hj e=>by
  by_cases hne : j = i
  . subst hne;rw [hi] at e;cases e
  . rw [updB_ne _ hne] at hj;exact hj e
 have far : ∀ {j s x},j ≠ i -> B j ≠ none -> ρ j = some s -> s.has x -> x ≠ r.b := fun {j s x} e hj hs hx eb=>e (E.inj j i s r x hj (by simp [hi]) hs hr hx (.inl eb))
 refine ⟨fun j b hj=>?_,fun j k s t x hj hk' hs' ht hx hy=>E.inj j k s t x (nn hj) (nn hk') hs' ht hx hy,fun j s hj hs'=>E.fpNe j s (nn hj) hs',
  fun j s x hj hs' hx=>Nat.lt_of_lt_of_le (E.fpLt j s x (nn hj) hs' hx) hs,fun j s x o hj hs' hx hI2=>?_,fun b o hIo=>?_,fun j b s o hj hs'=>?_⟩
 . by_cases e : j = i
   . subst e;rw [updB_same] at hj;cases hj;exact hB
   . rw [updB_ne _ e] at hj
     exact (E.bl j b hj).mono (fun s x hs' hx=>hk _ (far e (by simp [hj]) hs' hx)) hc hI
 . rcases hI' x o hI2 with h1|h1
   . exact E.fpIm j s x o (nn hj) hs' hx h1
   . by_cases e : j = i
     . subst e
       rw [hr] at hs';cases hs'
       subst h1
       exact E.fpNe j r (nn hj) hr hx
     . exact far e (nn hj) hs' (.inr hx) h1
 . rcases hI' b o hIo with h1|h1
   . exact Nat.lt_of_lt_of_le (E.imlt b o h1) hs
   . subst h1;omega
 . by_cases e : j = i
   . subst e;rw [updB_same] at hj;cases hj
     rw [hr] at hs';cases hs'
     exact hp o
   . rw [updB_ne _ e] at hj
     have hne : s.b ≠ r.b := far e (by simp [hj]) hs' (.inl rfl)
     rw [<- E.imOwn j b s o hj hs']
     exact ⟨fun h1=>(hI' _ _ h1).resolve_right hne,fun h1=>hI _ _ h1⟩
def sO (Im : Nat -> Nat -> Prop) (b n : Nat) : Nat -> Nat -> Prop := fun x o=>Im x o \/ (x = b /\ o < n)
theorem Env.freeze {r : RI} {T : Nat} {κ : K} {l : List κ.T} {sh : Bool} (E : Env B ρ Im h) (hi : B i = some (.row T κ l sh)) (hr : ρ i = some r) :
 Env (updB B i (some (.row T κ l true))) ρ (sO Im r.b (l.length * κ.sz)) h := by
 have hB := E.bl i _ hi
 refine E.write hi hr (fun _ _=>rfl) (fun _ _=>rfl) (Nat.le_refl _) (fun _ _ x => .inl x) (fun b o x=>x.imp id And.left) ?_ (fun o=>?_)
 . exact BlkR.mono (blk := .row T κ l true) (fun _ _ _ _=>rfl) (fun _ _ _=>rfl) (fun _ _ x => .inl x) hB
 . simp only [sO,Blk.pinned,true_and]
   refine ⟨fun h1=>h1.elim (fun h2=>?_) id,.inr⟩
   have := (E.imOwn i _ r o hi hr).1 h2
   cases sh with
   | true=>exact this
   | false=>exact absurd this (by simp [Blk.pinned])
theorem blk_lt {r : RI} (hB : BlkR ρ h Im i blk) (hr : ρ i = some r) : r.b < h.size := by
 cases blk with
 | box cells=>obtain ⟨r',cs,T,hr',hh,_⟩ := hB;rw [hr] at hr';cases hr';exact (Array.getElem?_eq_some_iff.1 hh).1
 | row T κ l sh=>simp only [BlkR,hr] at hB;obtain ⟨_,_,_,cs,T0,hh,_⟩ := hB;exact (Array.getElem?_eq_some_iff.1 hh).1
 | tree T κ l=>simp only [BlkR,hr] at hB;obtain ⟨_,_,_,cs,_,T0,hh,_⟩ := hB;exact (Array.getElem?_eq_some_iff.1 hh).1
 | mp l z=>simp only [BlkR,hr] at hB;obtain ⟨_,es,c,hh,_⟩ := hB;exact (Array.getElem?_eq_some_iff.1 hh).1
 | it l n z=>obtain ⟨r',hr',H⟩ := hB;rw [hr] at hr';cases hr';obtain ⟨_,_,_,_,hh,_⟩ := H.ex;exact (Array.getElem?_eq_some_iff.1 hh).1
theorem Env.lt (E : Env B ρ Im h) {r : RI} {x : Nat} (hi : B i ≠ none) (hr : ρ i = some r) (hx : r.has x) : x < h.size := by
 rcases hx with rfl|hx
 . obtain ⟨b,hb⟩ := Option.ne_none_iff_exists'.1 hi
   exact blk_lt (E.bl i b hb) hr
 . exact E.fpLt i r x hi hr hx
theorem Env.grow (E : Env B ρ Im h) (hf : ∀ b,b < h.size -> h'[b]? = h[b]?) (hs : h.size <= h'.size) (hI : ∀ b o,Im b o -> Im' b o)
 (hI2 : ∀ b o,Im' b o -> Im b o \/ (h.size <= b /\ b < h'.size)) : Env B ρ Im' h' := by
 have hc : ∀ b o,Im b o -> hcell h' b o = hcell h b o := fun b o h1=>dE (hf b (E.imlt b o h1)) o
 refine ⟨fun i b hB=>(E.bl i b hB).mono (fun r x hr hx=>hf _ (E.lt (by simp [hB]) hr hx)) hc hI,E.inj,E.fpNe,fun i r x hi hr hx=>Nat.lt_of_lt_of_le (E.fpLt i r x hi hr hx) hs,
  fun i r x o hi hr hx h2=>?_,fun b o h1=>?_,fun i blk r o hB hr=>?_⟩
 . rcases hI2 x o h2 with h3|h3
   . exact E.fpIm i r x o hi hr hx h3
   . have := E.fpLt i r x hi hr hx;omega
 . rcases hI2 b o h1 with h2|h2
   . exact Nat.lt_of_lt_of_le (E.imlt b o h2) hs
   . exact h2.2
 . have hlt := E.lt (x := r.b) (by simp [hB]) hr (.inl rfl)
   rw [<- E.imOwn i blk r o hB hr]
   exact ⟨fun h1=>(hI2 _ _ h1).resolve_right omG,hI _ _⟩
end
end Vg
