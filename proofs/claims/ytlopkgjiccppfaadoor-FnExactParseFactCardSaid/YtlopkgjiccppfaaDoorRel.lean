/- What an abstract state says of a frame and a heap; that what it says stands when other memory turns. No condition. -/
import Derived.Test.YtlopkgjiccppfaaDoorDom
import Derived.Test.YtlopkgjiccppfaaDoorTabs
namespace Vg
open Go

/-- a cell of the heap -/
def hcell (h : Array Obj) (b o : Nat) : Option Value :=
  match h[b]? with
  | some (.cells c _ _) => c[o]?
  | _ => none

theorem cell?_eq (w : World) (b o : Nat) : w.cell? ⟨b, o, none⟩ = hcell w.heap b o := by
  unfold World.cell? hcell; dsimp only; split <;> simp_all

theorem hcell_lt {h : Array Obj} {b o : Nat} {v : Value} (e : hcell h b o = some v) : b < h.size := by
  unfold hcell at e
  rcases Nat.lt_or_ge b h.size with h' | h'
  · exact h'
  · simp [Array.getElem?_eq_none h'] at e

theorem hcell_of_block {h h' : Array Obj} {b : Nat} (e : h'[b]? = h[b]?) (o : Nat) : hcell h' b o = hcell h b o := by
  unfold hcell; rw [e]

inductive RepD (h : Array Obj) (Im : Nat → Nat → Prop) : Dat → Value → Prop
  | int (k : IntKind) (n : Int) : RepD h Im (.int k n) (.int k n)
  | bool (b : Bool) : RepD h Im (.bool b) (.bool b)
  | str (s : ByteArray) : RepD h Im (.str s) (.string s)
  | errN : RepD h Im (.err false) .nilIface
  | errS (t : TypeId) (x : Value) : RepD h Im (.err true) (.iface t x)
  | empty (κ : K) (l : List κ.T) (hl : l.length = 0) (a : Option Addr) (cap : Nat) : RepD h Im (.seq κ l) (.slice a 0 cap)
  | seq (κ : K) (l : List κ.T) (b o cap : Nat) (cf : Nat → Nat → Value) (hcap : l.length ≤ cap) (hmax : cap ≤ maxLen)
      (him : ∀ k j, k < l.length → j < κ.sz → Im b (o + k * κ.sz + j))
      (hc : ∀ k j, k < l.length → j < κ.sz → hcell h b (o + k * κ.sz + j) = some (cf k j))
      (hr : ∀ k j, k < l.length → j < κ.sz → RepD h Im (cellOf κ l k j) (cf k j)) :
      RepD h Im (.seq κ l) (.slice (some ⟨b, o, none⟩) l.length cap)

/-- a datum that lies in memory of its own: each slice in a block of F, from its beginning on, no block twice -/
inductive RepT (h : Array Obj) : Dat → Value → (Nat → Prop) → Prop
  | int (k : IntKind) (n : Int) (F : Nat → Prop) : RepT h (.int k n) (.int k n) F
  | bool (b : Bool) (F : Nat → Prop) : RepT h (.bool b) (.bool b) F
  | str (s : ByteArray) (F : Nat → Prop) : RepT h (.str s) (.string s) F
  | nil (κ : K) (l : List κ.T) (hl : l.length = 0) (F : Nat → Prop) : RepT h (.seq κ l) (.slice none 0 0) F
  | seq (κ : K) (l : List κ.T) (b cap T : Nat) (cs : Array Value) (cf : Nat → Nat → Value) (Fk : Nat → Nat → Nat → Prop) (F : Nat → Prop) (hcap : l.length ≤ cap) (hmax : cap ≤ maxLen)
      (hb : F b) (hh : h[b]? = some (.cells cs T (0, 0))) (hsz : cs.size = cap * κ.sz) (hsub : ∀ k j x, k < l.length → j < κ.sz → Fk k j x → F x ∧ x ≠ b)
      (hdis : ∀ k j k' j' x, k < l.length → j < κ.sz → k' < l.length → j' < κ.sz → Fk k j x → Fk k' j' x → k = k' ∧ j = j')
      (hc : ∀ k j, k < l.length → j < κ.sz → cs[k * κ.sz + j]? = some (cf k j))
      (hr : ∀ k j, k < l.length → j < κ.sz → RepT h (cellOf κ l k j) (cf k j) (Fk k j)) :
      RepT h (.seq κ l) (.slice (some ⟨b, 0, none⟩) l.length cap) F

/-- where a block of the state's own lies: the concrete block, its capacity and length (in elements) -/
structure RI where
  b : Nat
  cap : Nat
  len : Nat
  /-- further blocks that are its own: those of its elements' slices -/
  fp : Nat → Prop := fun _ => False

abbrev RI.at (b cap len : Nat) : RI := ⟨b, cap, len, fun _ => False⟩

/-- is x a block of its own? -/
def RI.has (r : RI) (x : Nat) : Prop := x = r.b ∨ r.fp x

abbrev Rho := Nat → Option RI

inductive AVR (ρ : Rho) (h : Array Obj) (Im : Nat → Nat → Prop) : AV → Value → Prop
  | any (v : Value) : AVR ρ h Im .any v
  | cell (v : Value) (hv : v.oneCell' = true) : AVR ρ h Im .cell v
  | dat (d : Dat) (v : Value) (hd : RepD h Im d v) : AVR ρ h Im (.dat d) v
  | nils : AVR ρ h Im .nils (.slice none 0 0)
  | row (i : Nat) (r : RI) (hi : ρ i = some r) : AVR ρ h Im (.row i) (.slice (some ⟨r.b, 0, none⟩) r.len r.cap)
  | rowN (i : Nat) (hi : ρ i = none) : AVR ρ h Im (.row i) (.slice none 0 0)
  | ptr (i off : Nat) (r : RI) (hi : ρ i = some r) : AVR ρ h Im (.ptr i off) (.pointer (some ⟨r.b, off, none⟩))
  | eptr (κ : K) (x : κ.T) (j b o : Nat) (cf : Nat → Value)
      (him : ∀ j', j' < κ.sz → Im b (o + j')) (hc : ∀ j', j' < κ.sz → hcell h b (o + j') = some (cf j'))
      (hr : ∀ j', j' < κ.sz → RepD h Im ((κ.enc x).getD j' (.bool false)) (cf j')) :
      AVR ρ h Im (.eptr κ x j) (.pointer (some ⟨b, o + j, none⟩))
  | rptr (i k j sz : Nat) (r : RI) (hi : ρ i = some r) : AVR ρ h Im (.rptr i k j sz) (.pointer (some ⟨r.b, k * sz + j, none⟩))
  | agg (l : List AV) (cs : Array Value) (cf : Nat → Value) (hl : cs.size = l.length)
      (hcf : ∀ j, j < l.length → cs[j]? = some (cf j)) (hr : ∀ j a, l[j]? = some a → AVR ρ h Im a (cf j)) : AVR ρ h Im (.agg l) (.agg cs)
  | tup (l : List AV) (cs : Array Value) (cf : Nat → Value) (hl : cs.size = l.length)
      (hcf : ∀ j, j < l.length → cs[j]? = some (cf j)) (hr : ∀ j a, l[j]? = some a → AVR ρ h Im a (cf j)) : AVR ρ h Im (.tup l) (.tuple cs)
  | fn (f : Nat) (l : List AV) (cs : Array Value) (cf : Nat → Value) (hl : cs.size = l.length)
      (hcf : ∀ j, j < l.length → cs[j]? = some (cf j)) (hr : ∀ j a, l[j]? = some a → AVR ρ h Im a (cf j)) :
      AVR ρ h Im (.fn f l) (.func (.func f) #[] cs)

section mono
variable {h h' : Array Obj} {Im Im' : Nat → Nat → Prop} {F : Nat → Prop}

theorem RepD.mono (hc : ∀ b o, Im b o → hcell h' b o = hcell h b o) (hI : ∀ b o, Im b o → Im' b o) {d : Dat} {v : Value}
    (hr : RepD h Im d v) : RepD h' Im' d v := by
  induction hr with
  | int k n => exact .int k n
  | bool b => exact .bool b
  | str s => exact .str s
  | errN => exact .errN
  | errS t x => exact .errS t x
  | empty κ l hl a cap => exact .empty κ l hl a cap
  | seq κ l b o cap cf hcap hmax him hcc _ ih =>
    exact .seq κ l b o cap cf hcap hmax (fun k j hk hj => hI _ _ (him k j hk hj)) (fun k j hk hj => (hc _ _ (him k j hk hj)).trans (hcc k j hk hj))
      (fun k j hk hj => ih k j hk hj)

theorem RepT.mono (hc : ∀ x, F x → h'[x]? = h[x]?) {d : Dat} {v : Value} (hr : RepT h d v F) : RepT h' d v F := by
  induction hr with
  | int k n F => exact .int k n F
  | bool b F => exact .bool b F
  | str s F => exact .str s F
  | nil κ l hl F => exact .nil κ l hl F
  | seq κ l b cap T cs cf Fk F hcap hmax hb hh hsz hsub hdis hcc _ ih =>
    exact .seq κ l b cap T cs cf Fk F hcap hmax hb ((hc b hb).trans hh) hsz hsub hdis hcc (fun k j hk hj => ih k j hk hj (fun x hx => hc x (hsub k j x hk hj hx).1))

theorem RepT.sub {F' : Nat → Prop} (hs : ∀ x, F x → F' x) {d : Dat} {v : Value} (hr : RepT h d v F) : RepT h d v F' := by
  cases hr with
  | int k n F => exact .int k n _
  | bool b F => exact .bool b _
  | str s F => exact .str s _
  | nil κ l hl F => exact .nil κ l hl _
  | seq κ l b cap T cs cf Fk F hcap hmax hb hh hsz hsub hdis hcc hr =>
    exact .seq κ l b cap T cs cf Fk _ hcap hmax (hs b hb) hh hsz (fun k j x hk hj hx => ⟨hs x (hsub k j x hk hj hx).1, (hsub k j x hk hj hx).2⟩) hdis hcc hr

/-- given up: its cells are for good -/
theorem RepT.melt (hI : ∀ x o, F x → Im x o) {d : Dat} {v : Value} (hr : RepT h d v F) : RepD h Im d v := by
  induction hr with
  | int k n F => exact .int k n
  | bool b F => exact .bool b
  | str s F => exact .str s
  | nil κ l hl F => exact .empty κ l hl none 0
  | seq κ l b cap T cs cf Fk F hcap hmax hb hh hsz hsub hdis hcc _ ih =>
    exact .seq κ l b 0 cap cf hcap hmax (fun k j hk hj => hI _ _ hb) (fun k j hk hj => by rw [Nat.zero_add]; simp [hcell, hh, hcc k j hk hj]) (fun k j hk hj => ih k j hk hj (fun x o hx => hI x o (hsub k j x hk hj hx).1))

theorem AVR.mono {ρ : Rho} (hc : ∀ b o, Im b o → hcell h' b o = hcell h b o) (hI : ∀ b o, Im b o → Im' b o) {a : AV} {v : Value}
    (hr : AVR ρ h Im a v) : AVR ρ h' Im' a v := by
  induction hr with
  | any v => exact .any v
  | cell v hv => exact .cell v hv
  | dat d v hd => exact .dat d v (hd.mono hc hI)
  | nils => exact .nils
  | row i r hi => exact .row i r hi
  | rowN i hi => exact .rowN i hi
  | ptr i off r hi => exact .ptr i off r hi
  | eptr κ x j b o cf him hcc hr =>
    exact .eptr κ x j b o cf (fun j' hj => hI _ _ (him j' hj)) (fun j' hj => (hc _ _ (him j' hj)).trans (hcc j' hj)) (fun j' hj => (hr j' hj).mono hc hI)
  | rptr i k j sz r hi => exact .rptr i k j sz r hi
  | agg l cs cf hl hcf _ ih => exact .agg l cs cf hl hcf ih
  | tup l cs cf hl hcf _ ih => exact .tup l cs cf hl hcf ih
  | fn f l cs cf hl hcf _ ih => exact .fn f l cs cf hl hcf ih
end mono

/-! ### forgetting a block -/
def AV.killC (i : Nat) : AV → AV
  | .row j => match Nat.beq j i with | true => .cell | false => .row j
  | .ptr j o => match Nat.beq j i with | true => .cell | false => .ptr j o
  | .rptr j k o sz => match Nat.beq j i with | true => .cell | false => .rptr j k o sz
  | .dat d => .dat d
  | .nils => .nils
  | .cell => .cell
  | .eptr κ x j => .eptr κ x j
  | _ => .any

def AV.killM (i : Nat) : AV → AV
  | .agg l => .agg (l.map (AV.killC i))
  | .fn f l => .fn f (l.map (AV.killC i))
  | .row j => match Nat.beq j i with | true => .cell | false => .row j
  | .ptr j o => match Nat.beq j i with | true => .cell | false => .ptr j o
  | .rptr j k o sz => match Nat.beq j i with | true => .cell | false => .rptr j k o sz
  | .dat d => .dat d
  | .nils => .nils
  | .cell => .cell
  | .eptr κ x j => .eptr κ x j
  | .any => .any
  | .tup _ => .any

def AV.kill (i : Nat) : AV → AV
  | .tup l => .tup (l.map (AV.killM i))
  | .agg l => .agg (l.map (AV.killC i))
  | .fn f l => .fn f (l.map (AV.killC i))
  | .row j => match Nat.beq j i with | true => .cell | false => .row j
  | .ptr j o => match Nat.beq j i with | true => .cell | false => .ptr j o
  | .rptr j k o sz => match Nat.beq j i with | true => .cell | false => .rptr j k o sz
  | .dat d => .dat d
  | .nils => .nils
  | .cell => .cell
  | .eptr κ x j => .eptr κ x j
  | .any => .any

section kill
variable {h : Array Obj} {Im : Nat → Nat → Prop} {ρ ρ' : Rho} {i : Nat}

theorem AVR.killC (hρ : ∀ j, j ≠ i → ρ' j = ρ j) {a : AV} {v : Value} (hr : AVR ρ h Im a v) : AVR ρ' h Im (a.killC i) v := by
  cases hr with
  | any v => exact .any v
  | cell v hv => exact .cell v hv
  | dat d v hd => exact .dat d v hd
  | nils => exact .nils
  | row j r hi =>
    simp only [AV.killC]; split
    · exact .cell _ rfl
    · rename_i hb; exact .row j r (by rw [hρ j (fun e => by subst e; simp at hb)]; exact hi)
  | rowN j hi =>
    simp only [AV.killC]; split
    · exact .cell _ rfl
    · rename_i hb; exact .rowN j (by rw [hρ j (fun e => by subst e; simp at hb)]; exact hi)
  | ptr j off r hi =>
    simp only [AV.killC]; split
    · exact .cell _ rfl
    · rename_i hb; exact .ptr j off r (by rw [hρ j (fun e => by subst e; simp at hb)]; exact hi)
  | eptr κ x j b o cf him hcc hr => exact .eptr κ x j b o cf him hcc hr
  | rptr j k o sz r hi =>
    simp only [AV.killC]; split
    · exact .cell _ rfl
    · rename_i hb; exact .rptr j k o sz r (by rw [hρ j (fun e => by subst e; simp at hb)]; exact hi)
  | agg => exact .any _
  | tup => exact .any _
  | fn => exact .any _

theorem killCs (hρ : ∀ j, j ≠ i → ρ' j = ρ j) {l : List AV} {cf : Nat → Value} (hr : ∀ j a, l[j]? = some a → AVR ρ h Im a (cf j)) :
    ∀ j a, (l.map (AV.killC i))[j]? = some a → AVR ρ' h Im a (cf j) := by
  intro j a ha
  rw [List.getElem?_map] at ha
  cases hl : l[j]? with
  | none => simp [hl] at ha
  | some b => simp [hl] at ha; subst ha; exact (hr j b hl).killC hρ

theorem AVR.killM (hρ : ∀ j, j ≠ i → ρ' j = ρ j) {a : AV} {v : Value} (hr : AVR ρ h Im a v) : AVR ρ' h Im (a.killM i) v := by
  cases hr with
  | agg l cs cf hl hcf hr => exact .agg _ cs cf (by simpa using hl) (by simpa using hcf) (killCs hρ hr)
  | tup l cs cf hl hcf hr => exact .any _
  | fn f l cs cf hl hcf hr => exact .fn f _ cs cf (by simpa using hl) (by simpa using hcf) (killCs hρ hr)
  | any v => exact .any v
  | cell v hv => exact .cell v hv
  | dat d v hd => exact .dat d v hd
  | nils => exact .nils
  | row j r hi => exact (AVR.row j r hi).killC hρ
  | rowN j hi => exact (AVR.rowN j hi).killC hρ
  | ptr j off r hi => exact (AVR.ptr j off r hi).killC hρ
  | eptr κ x j b o cf him hcc hr => exact .eptr κ x j b o cf him hcc hr
  | rptr j k o sz r hi => exact (AVR.rptr j k o sz r hi).killC hρ

theorem AVR.kill (hρ : ∀ j, j ≠ i → ρ' j = ρ j) {a : AV} {v : Value} (hr : AVR ρ h Im a v) : AVR ρ' h Im (a.kill i) v := by
  cases hr with
  | tup l cs cf hl hcf hr =>
    refine .tup _ cs cf (by simpa using hl) (by simpa using hcf) (fun j a ha => ?_)
    rw [List.getElem?_map] at ha
    cases hl : l[j]? with
    | none => simp [hl] at ha
    | some b => simp [hl] at ha; subst ha; exact (hr j b hl).killM hρ
  | agg l cs cf hl hcf hr => exact (AVR.agg l cs cf hl hcf hr).killM hρ
  | fn f l cs cf hl hcf hr => exact (AVR.fn f l cs cf hl hcf hr).killM hρ
  | any v => exact .any v
  | cell v hv => exact .cell v hv
  | dat d v hd => exact .dat d v hd
  | nils => exact .nils
  | row j r hi => exact (AVR.row j r hi).killC hρ
  | rowN j hi => exact (AVR.rowN j hi).killC hρ
  | ptr j off r hi => exact (AVR.ptr j off r hi).killC hρ
  | eptr κ x j b o cf him hcc hr => exact .eptr κ x j b o cf him hcc hr
  | rptr j k o sz r hi => exact (AVR.rptr j k o sz r hi).killC hρ
end kill

/-! ### blocks -/
def BlkR (ρ : Rho) (h : Array Obj) (Im : Nat → Nat → Prop) (i : Nat) : Blk → Prop
  | .box cells => ∃ (r : RI) (cs : Array Value) (T : Nat), ρ i = some r ∧ h[r.b]? = some (.cells cs T (0, 0)) ∧ cs.size = cells.length ∧
      ∀ (j : Nat) (a : AV), cells[j]? = some a → ∃ c : Value, cs[j]? = some c ∧ AVR ρ h Im a c
  | .row _ κ l _ => match ρ i with
      | none => l.length = 0
      | some r => r.len = l.length ∧ r.len ≤ r.cap ∧ r.cap ≤ maxLen ∧ ∃ (cs : Array Value) (T0 : Nat), h[r.b]? = some (.cells cs T0 (0, 0)) ∧ cs.size = r.cap * κ.sz ∧
          ∀ k j, k < l.length → j < κ.sz → ∃ c : Value, cs[k * κ.sz + j]? = some c ∧ RepD h Im (cellOf κ l k j) c
  | .tree _ κ l => match ρ i with
      | none => l.length = 0
      | some r => r.len = l.length ∧ r.len ≤ r.cap ∧ r.cap ≤ maxLen ∧ ∃ (cs : Array Value) (Fk : Nat → Nat → Nat → Prop) (T0 : Nat), h[r.b]? = some (.cells cs T0 (0, 0)) ∧ cs.size = r.cap * κ.sz ∧
          (∀ k j x, k < l.length → j < κ.sz → Fk k j x → r.fp x ∧ x ≠ r.b) ∧
          (∀ k j k' j' x, k < l.length → j < κ.sz → k' < l.length → j' < κ.sz → Fk k j x → Fk k' j' x → k = k' ∧ j = j') ∧
          ∀ k j, k < l.length → j < κ.sz → ∃ c : Value, cs[k * κ.sz + j]? = some c ∧ RepT h (cellOf κ l k j) c (Fk k j)

def Blk.kill (i : Nat) : Blk → Blk
  | .box cells => .box (cells.map (AV.killC i))
  | b => b

/-- how many cells of a block are for good -/
def Blk.pinned : Blk → Nat
  | .row _ κ l true => l.length * κ.sz
  | _ => 0

structure Env (B : Nat → Option Blk) (ρ : Rho) (Im : Nat → Nat → Prop) (h : Array Obj) : Prop where
  bl : ∀ i b, B i = some b → BlkR ρ h Im i b
  inj : ∀ i j r s x, B i ≠ none → B j ≠ none → ρ i = some r → ρ j = some s → r.has x → s.has x → i = j
  fpNe : ∀ i r, B i ≠ none → ρ i = some r → ¬ r.fp r.b
  fpLt : ∀ i r x, B i ≠ none → ρ i = some r → r.fp x → x < h.size
  fpIm : ∀ i r x o, B i ≠ none → ρ i = some r → r.fp x → ¬ Im x o
  imlt : ∀ b o, Im b o → b < h.size
  imOwn : ∀ i blk r o, B i = some blk → ρ i = some r → (Im r.b o ↔ o < blk.pinned)

/-- what a call may write: blocks; the places of the blocks that stay where they are -/
structure GP where
  g : Nat → Prop
  pin : Nat → Option (Option RI)
  lt : ∀ i, i < 900000 → pin i = none
instance : CoeFun GP (fun _ => Nat → Prop) := ⟨GP.g⟩
def GP.nil : GP := ⟨fun _ => False, fun _ => none, fun _ _ => rfl⟩

/-- from the world at the call to now -/
structure Ext (w0 : World) (G : GP) (Im0 : Nat → Nat → Prop) (B : Nat → Option Blk) (ρ : Rho) (Im : Nat → Nat → Prop) (w : World) : Prop where
  own : ∀ i r x, B i ≠ none → ρ i = some r → r.has x → G x ∨ w0.heap.size ≤ x
  im0 : ∀ b o, Im0 b o → Im b o
  imNew : ∀ b o, Im b o → Im0 b o ∨ G b ∨ w0.heap.size ≤ b
  keep : ∀ b o, Im0 b o → hcell w.heap b o = hcell w0.heap b o
  frame : ∀ b, b < w0.heap.size → ¬ G b → w.heap[b]? = w0.heap[b]?
  grow : w0.heap.size ≤ w.heap.size
  os : w.os = w0.os
  tape : w.tape = w0.tape
  output : w.output = w0.output
  pin : ∀ i p, G.pin i = some p → B i ≠ none → ρ i = p

/-- the library's tables are as they were laid, for good -/
structure TabH (h : Array Obj) (Im : Nat → Nat → Prop) : Prop where
  tab : ∀ t, t ∈ tabCells → ∀ i, i ≤ t.2.length → Im t.1 i ∧ hcell h t.1 i = t.2[i]?
  err : ∀ g, g ∈ errCells → Im g 0 ∧ ∃ v, hcell h g 0 = some v ∧ (v = .nilIface ∨ ∃ t x, v = .iface t x)
  num : ∀ g, g ∈ numCells → Im g 0 ∧ ∃ m, hcell h g 0 = some (.int .i64 m)
theorem TabH.ext {h h' : Array Obj} {Im Im' : Nat → Nat → Prop} (T : TabH h Im) (hI : ∀ b o, Im b o → Im' b o) (hk : ∀ b o, Im b o → hcell h' b o = hcell h b o) : TabH h' Im' :=
  ⟨fun t ht i hi => ⟨hI _ _ (T.tab t ht i hi).1, (hk _ _ (T.tab t ht i hi).1).trans (T.tab t ht i hi).2⟩, fun g hg => by
    obtain ⟨h1, v, h2, h3⟩ := T.err g hg
    exact ⟨hI _ _ h1, v, (hk _ _ h1).trans h2, h3⟩, fun g hg => by
    obtain ⟨h1, m, h2⟩ := T.num g hg
    exact ⟨hI _ _ h1, m, (hk _ _ h1).trans h2⟩⟩
/-- what is for good at a call -/
structure ImOk (h : Array Obj) (Im : Nat → Nat → Prop) : Prop where
  lt : ∀ b o, Im b o → b < h.size
  tab : TabH h Im

/-- the frame of a call and its memory -/
structure Rel (w0 : World) (G : GP) (Im0 : Nat → Nat → Prop) (S : AState) (ρ : Rho) (Im : Nat → Nat → Prop) (a : Act) (w : World) : Prop where
  defers : a.defers = []
  size : a.tmps.size = S.n
  tm : ∀ t, AVR ρ w.heap Im (S.tm t) (a.tmps.getD t undef)
  env : Env S.blk ρ Im w.heap
  ext : Ext w0 G Im0 S.blk ρ Im w

theorem Rel.tab {w0 : World} {G : GP} {Im0 : Nat → Nat → Prop} {S : AState} {ρ : Rho} {Im : Nat → Nat → Prop} {a : Act} {w : World} [hT : Nonempty (TabH w0.heap Im0)] (hR : Rel w0 G Im0 S ρ Im a w) : TabH w.heap Im :=
  hT.elim fun t => t.ext hR.ext.im0 hR.ext.keep

def RelE (w0 : World) (G : GP) (Im0 : Nat → Nat → Prop) (S : AState) (a : Act) (w : World) : Prop :=
  ∃ ρ Im, Rel w0 G Im0 S ρ Im a w

end Vg
