/- The table of types out of a program's. No condition. -/
import Derived.Test.YtfhkodimclmcdaaGreatDoorSound16
import Derived.ProofKit
namespace Vg
open Go
def zv : Dat -> Value
 | .int k n => .int k n
 | .bool b => .bool b
 | .str s => .string s
 | .err _ => .nilIface
 | .nof => .nilFunc
 | .clo _ _ => .nilFunc
 | .seq _ _ => .slice none 0 0
def isZ : Dat -> Bool
 | .seq _ l=>l.isEmpty
 | .err b => !b
 | .clo _ _=>false
 | _=>true
def aM (P : Program) : List Field -> List (Nat × Nat) -> Bool
 | [],[]=>true
 | fd :: fs,(o,E) :: l=>match Nat.beq fd.offset o,Nat.beq fd.type E,(match P.info? E with|some x => !Nat.beq x.size 0|none=>false) with
  | true,true,true=>aM P fs l
  | _,_,_=>false
 | _,_=>false
theorem qe5 {P : Program} : ∀ {fs : List Field} {l : List (Nat × Nat)},aM P fs l = true -> fs.length = l.length /\
 ∀ (f off E : Nat),l[f]? = some (off,E) -> ∃ fd : Field,fs[f]? = some fd /\ fd.offset = off /\ fd.type = E /\ ∃ x,P.info? E = some x /\ x.size ≠ 0
 | [],[],_=>⟨rfl,fun f off E h=>by simp at h⟩
 | fd :: fs,(o,E) :: l,h=>by
  simp only [aM] at h
  split at h
  . rename_i h1 h2 h3
    obtain ⟨h4,h5⟩ := qe5 h
    refine ⟨by simp [h4],fun f off E' hl=>?_⟩
    cases f with
    | zero =>
     simp at hl
     obtain ⟨rfl,rfl⟩ := hl
     split at h3
     . rename_i x hx
       exact ⟨fd,rfl,Nat.eq_of_beq_eq_true h1,Nat.eq_of_beq_eq_true h2,x,hx,fun e=>by simp [e] at h3⟩
     . cases h3
    | succ f=>simp at hl;simpa using h5 f off E' hl
  . cases h
 | [],_ :: _,h=>by simp [aM] at h
 | _ :: _,[],h=>by simp [aM] at h
def qfw (P : Program) (d : TypeDesc) (t : TD) : Prop :=
 match t with
 | .int k=>d = .int k
 | .bool=>d = .bool
 | .str=>d = .string
 | .flds l=>∃ fs,d = .struct fs /\ aM P fs.toList l = true
 | .slice E _=>d = .slice E
 | .ptr E=>d = .pointer E
 | .iface=>∃ ms,d = .interface ms
 | .func=>∃ x y z,d = .func x y z
 | .map=>∃ k e,d = .map k e /\ P.underlying k = some .string /\ ∀ w : World,(zeroValue e).run P w = .ok (.int .i64 0) w
 | .other=>True
theorem TyOk.of {P : Program} {T : Nat} {i : TyI} (x : TypeInfo) (v : Value) (h1 : P.info? T = some x) (h2 : x.size = i.size) (h3 : x.bytes = i.bytes) (h4 : x.zero = some v) (h5 : v.cells = i.zero.toArray)
 (h6 : i.zeroD = [] \/ i.zero = i.zeroD.map zv) (h7 : i.zeroD.all isZ = true) (hz : Nat.beq i.zero.length i.size = true) (d : TypeDesc)
 (ha : (match d with | .struct _ | .array _ _=>true|_=>false) = i.agg) (hu : P.underlying T = some d) (hd : qfw P d i.desc) : TyOk P T i := by
 have hz' := Nat.eq_of_beq_eq_true hz
 refine ⟨⟨x,v,h1,h2,h3,h4,h5⟩,hz',fun j z hj=>?_,⟨d,hu,ha, ?_⟩⟩
 . have h6 : i.zero = i.zeroD.map zv := h6.resolve_left (fun e=>by rw [e] at hj;simp at hj)
   refine ⟨zv z,by rw [h6];simp [hj],by cases z <;> rfl,fun h Im=>?_⟩
   have hzz : isZ z = true := List.all_eq_true.1 h7 z (List.mem_of_getElem? hj)
   cases z with
   | int k n=>exact .int k n
   | bool b=>exact .bool b
   | str s=>exact .str s
   | err b =>
    have : b = false := by simpa [isZ] using hzz
    subst this;exact .errN
   | nof=>exact .nof
   | clo=>cases hzz
   | seq κ l=>exact .empty κ l (by simpa [isZ] using hzz) none 0
 . unfold qfw at hd
   split at hd <;> simp only [*]
   . rename_i l _
     obtain ⟨fs,he,hf⟩ := hd
     obtain ⟨hl,hff⟩ := qe5 hf
     refine ⟨fs,he,by simpa using hl,fun f off E h=>?_⟩
     obtain ⟨fd,h1,h2⟩ := hff f off E h
     exact ⟨fd,by simpa using h1,h2⟩
def jR : List (Nat × TyI) -> Tys
 | [],_=>none
 | (s,i) :: l,T=>match Nat.beq s T with|true=>some i|false=>jR l T
def AllTy (P : Program) : List (Nat × TyI) -> Prop
 | []=>True
 | (s,i) :: l=>TyOk P s i /\ AllTy P l
theorem qc5 {P : Program} : ∀ {l : List (Nat × TyI)},AllTy P l -> d6 P (jR l)
 | [],_,T,i,h=>by cases h
 | (s,j) :: l,⟨h1,h2⟩,T,i,h=>by
  simp only [jR] at h
  split at h
  . rename_i hb
    have := Nat.eq_of_beq_eq_true hb
    subst this
    cases h;exact h1
  . exact qc5 h2 T i h
inductive Sh where
 | int (k : IntKind)
 | bool
 | str
 | seq (κ : K)
 deriving DecidableEq
mutual
def tN : V.Term -> Prop
 | ⟨_,_,_,nm,ks⟩=>nm.size <= maxLen /\ bH ks
def bH : List V.Term -> Prop
 | []=>True
 | t :: ts=>tN t /\ bH ts
end
theorem eL : ∀ {l : List V.Term},(∀ x ∈ l,tN x) -> bH l
 | [],_=>by rw [bH];trivial
 | t :: ts,h=>by
  rw [bH]
  exact ⟨h t (List.mem_cons_self ..),eL fun x hx=>h x (List.mem_cons_of_mem _ hx)⟩
def K.deep : (κ : K) -> κ.T -> Prop
 | .strs,s=>s.size <= maxLen
 | .vals,x=>x.name.size <= maxLen
 | .terms,t=>tN t
 | .paths,x=>bH x.regs /\ bH x.mem /\ bH x.out /\ bH x.cond
 | _,_=>True
def Sh.ok : Sh -> Dat -> Prop
 | .int k,.int k' n=>k' = k /\ (Lit.int k n).wf = true
 | .bool,.bool _=>True
 | .str,.str s=>s.size <= maxLen
 | .seq κ,.seq κ' l=>κ' = κ /\ l.length <= maxLen /\ ∀ x,x ∈ l -> K.deep κ' x
 | _,_=>False
def ShL : List Sh -> List Dat -> Prop
 | [],[]=>True
 | s :: ss,d :: ds=>s.ok d /\ ShL ss ds
 | _,_=>False
abbrev i64 : Sh := .int .i64
def K.sh : K -> List Sh
 | .ints=>[i64]
 | .bools=>[.bool]
 | .strs=>[.str]
 | .intss=>[.seq .ints]
 | .inss=>[i64,i64,i64,i64]
 | .progs=>[i64,i64,i64,.seq .inss]
 | .facts=>[i64,i64,i64,i64]
 | .states=>[i64,.seq .ints,.seq .ints,.seq .ints,i64,.seq .ints,i64,i64]
 | .bytes=>[.int .u8]
 | .vals=>[.str,i64,i64]
 | .terms=>[i64,i64,i64,.str,.seq .terms]
 | .paths=>[i64,.seq .terms,.seq .terms,.seq .ints,i64,.seq .terms,i64,i64,.seq .terms,.seq .ints]
theorem o9 {d : Dat} (h : i64.ok d) : ∃ n,d = .i n := by
 cases d with
 | int k n=>obtain ⟨rfl,_⟩ := h;exact ⟨n,rfl⟩
 | _=>exact h.elim
theorem ok_intk {q : IntKind} {d : Dat} (h : (Sh.int q).ok d) : ∃ n,d = .int q n := by
 cases d with
 | int k n=>obtain ⟨rfl,_⟩ := h;exact ⟨n,rfl⟩
 | _=>exact h.elim
theorem ok_bool {d : Dat} (h : Sh.bool.ok d) : ∃ b,d = .bool b := by
 cases d with
 | bool b=>exact ⟨b,rfl⟩
 | _=>exact h.elim
theorem dV {d : Dat} (h : Sh.str.ok d) : ∃ s,d = .str s := by
 cases d with
 | str s=>exact ⟨s,rfl⟩
 | _=>exact h.elim
theorem qC {κ : K} {d : Dat} (h : (Sh.seq κ).ok d) : ∃ l,d = .seq κ l := by
 cases d with
 | seq κ' l=>obtain ⟨rfl,_⟩ := h;exact ⟨l,rfl⟩
 | _=>exact h.elim
theorem u6 {s : Sh} {ss : List Sh} {ds : List Dat} (h : ShL (s :: ss) ds) : ∃ d r,ds = d :: r /\ s.ok d /\ ShL ss r := by
 cases ds with
 | nil=>exact h.elim
 | cons d r=>exact ⟨d,r,rfl,h.1,h.2⟩
theorem qD {ds : List Dat} (h : ShL [] ds) : ds = [] := by
 cases ds with
 | nil=>rfl
 | cons d r=>exact h.elim
theorem K.deep_of : ∀ {κ : K} {x : κ.T},ShL κ.sh (κ.enc x) -> κ.deep x := by
 intro κ x h
 cases κ
 case strs=>exact h.1
 case vals=>exact h.1
 case terms =>
  have h4 := h.2.2.2.1
  have h5 := h.2.2.2.2.1.2.2
  show tN x
  cases x
  rw [tN]
  exact ⟨h4,eL h5⟩
 case paths=>exact ⟨eL h.2.1.2.2,eL h.2.2.1.2.2,eL h.2.2.2.2.2.1.2.2,eL h.2.2.2.2.2.2.2.2.1.2.2⟩
 all_goals trivial
theorem K.of_sh : ∀ {κ : K} {ds : List Dat},ShL κ.sh ds -> ∃ x : κ.T,κ.enc x = ds := by
 intro κ ds h
 cases κ <;> simp only [K.sh] at h
 . obtain ⟨_,_,rfl,h1,h⟩ := u6 h
   obtain rfl := qD h
   obtain ⟨n,rfl⟩ := o9 h1
   exact ⟨n,rfl⟩
 . obtain ⟨_,_,rfl,h1,h⟩ := u6 h
   obtain rfl := qD h
   obtain ⟨n,rfl⟩ := ok_bool h1
   exact ⟨n,rfl⟩
 . obtain ⟨_,_,rfl,h1,h⟩ := u6 h
   obtain rfl := qD h
   obtain ⟨n,rfl⟩ := dV h1
   exact ⟨n,rfl⟩
 . obtain ⟨_,_,rfl,h1,h⟩ := u6 h
   obtain rfl := qD h
   obtain ⟨n,rfl⟩ := qC h1
   exact ⟨n,rfl⟩
 . obtain ⟨_,_,rfl,h1,h⟩ := u6 h
   obtain ⟨_,_,rfl,h2,h⟩ := u6 h
   obtain ⟨_,_,rfl,h3,h⟩ := u6 h
   obtain ⟨_,_,rfl,h4,h⟩ := u6 h
   obtain rfl := qD h
   obtain ⟨a,rfl⟩ := o9 h1
   obtain ⟨b,rfl⟩ := o9 h2
   obtain ⟨c,rfl⟩ := o9 h3
   obtain ⟨d,rfl⟩ := o9 h4
   exact ⟨(⟨a,b,c,d⟩ : V.Ins),rfl⟩
 . obtain ⟨_,_,rfl,h1,h⟩ := u6 h
   obtain ⟨_,_,rfl,h2,h⟩ := u6 h
   obtain ⟨_,_,rfl,h3,h⟩ := u6 h
   obtain ⟨_,_,rfl,h4,h⟩ := u6 h
   obtain rfl := qD h
   obtain ⟨a,rfl⟩ := o9 h1
   obtain ⟨b,rfl⟩ := o9 h2
   obtain ⟨c,rfl⟩ := o9 h3
   obtain ⟨d,rfl⟩ := qC h4
   exact ⟨(⟨a,b,c,d⟩ : V.Prog),rfl⟩
 . obtain ⟨_,_,rfl,h1,h⟩ := u6 h
   obtain ⟨_,_,rfl,h2,h⟩ := u6 h
   obtain ⟨_,_,rfl,h3,h⟩ := u6 h
   obtain ⟨_,_,rfl,h4,h⟩ := u6 h
   obtain rfl := qD h
   obtain ⟨a,rfl⟩ := o9 h1
   obtain ⟨b,rfl⟩ := o9 h2
   obtain ⟨c,rfl⟩ := o9 h3
   obtain ⟨d,rfl⟩ := o9 h4
   exact ⟨(⟨a,b,c,d⟩ : V.Fact),rfl⟩
 . obtain ⟨_,_,rfl,h1,h⟩ := u6 h
   obtain ⟨_,_,rfl,h2,h⟩ := u6 h
   obtain ⟨_,_,rfl,h3,h⟩ := u6 h
   obtain ⟨_,_,rfl,h4,h⟩ := u6 h
   obtain ⟨_,_,rfl,h5,h⟩ := u6 h
   obtain ⟨_,_,rfl,h6,h⟩ := u6 h
   obtain ⟨_,_,rfl,h7,h⟩ := u6 h
   obtain ⟨_,_,rfl,h8,h⟩ := u6 h
   obtain rfl := qD h
   obtain ⟨a,rfl⟩ := o9 h1
   obtain ⟨b,rfl⟩ := qC h2
   obtain ⟨c,rfl⟩ := qC h3
   obtain ⟨d,rfl⟩ := qC h4
   obtain ⟨e,rfl⟩ := o9 h5
   obtain ⟨f,rfl⟩ := qC h6
   obtain ⟨g,rfl⟩ := o9 h7
   obtain ⟨i,rfl⟩ := o9 h8
   exact ⟨(⟨a,b,c,d,e,f,g,i⟩ : V.State),rfl⟩
 . obtain ⟨_,_,rfl,h1,h⟩ := u6 h
   obtain rfl := qD h
   obtain ⟨n,rfl⟩ := ok_intk h1
   exact ⟨n,rfl⟩
 . obtain ⟨_,_,rfl,h1,h⟩ := u6 h
   obtain ⟨_,_,rfl,h2,h⟩ := u6 h
   obtain ⟨_,_,rfl,h3,h⟩ := u6 h
   obtain rfl := qD h
   obtain ⟨a,rfl⟩ := dV h1
   obtain ⟨b,rfl⟩ := o9 h2
   obtain ⟨c,rfl⟩ := o9 h3
   exact ⟨(⟨a,b,c⟩ : V.Val),rfl⟩
 . obtain ⟨_,_,rfl,h1,h⟩ := u6 h
   obtain ⟨_,_,rfl,h2,h⟩ := u6 h
   obtain ⟨_,_,rfl,h3,h⟩ := u6 h
   obtain ⟨_,_,rfl,h4,h⟩ := u6 h
   obtain ⟨_,_,rfl,h5,h⟩ := u6 h
   obtain rfl := qD h
   obtain ⟨a,rfl⟩ := o9 h1
   obtain ⟨b,rfl⟩ := o9 h2
   obtain ⟨c,rfl⟩ := o9 h3
   obtain ⟨d,rfl⟩ := dV h4
   obtain ⟨e,rfl⟩ := qC h5
   exact ⟨(⟨a,b,c,d,e⟩ : V.Term),rfl⟩
 . obtain ⟨_,_,rfl,h1,h⟩ := u6 h
   obtain ⟨_,_,rfl,h2,h⟩ := u6 h
   obtain ⟨_,_,rfl,h3,h⟩ := u6 h
   obtain ⟨_,_,rfl,h4,h⟩ := u6 h
   obtain ⟨_,_,rfl,h5,h⟩ := u6 h
   obtain ⟨_,_,rfl,h6,h⟩ := u6 h
   obtain ⟨_,_,rfl,h7,h⟩ := u6 h
   obtain ⟨_,_,rfl,h8,h⟩ := u6 h
   obtain ⟨_,_,rfl,h9,h⟩ := u6 h
   obtain ⟨_,_,rfl,h10,h⟩ := u6 h
   obtain rfl := qD h
   obtain ⟨a,rfl⟩ := o9 h1
   obtain ⟨b,rfl⟩ := qC h2
   obtain ⟨c,rfl⟩ := qC h3
   obtain ⟨d,rfl⟩ := qC h4
   obtain ⟨e,rfl⟩ := o9 h5
   obtain ⟨f,rfl⟩ := qC h6
   obtain ⟨g,rfl⟩ := o9 h7
   obtain ⟨i,rfl⟩ := o9 h8
   obtain ⟨j,rfl⟩ := qC h9
   obtain ⟨k,rfl⟩ := qC h10
   exact ⟨(⟨a,b,c,d,e,f,g,i,j,k⟩ : V.Path),rfl⟩
theorem ShL.length : ∀ {ss : List Sh} {ds : List Dat},ShL ss ds -> ds.length = ss.length
 | [],[],_=>rfl
 | _ :: ss,_ :: ds,h=>by simp [ShL.length h.2]
 | [],_ :: _,h=>h.elim
 | _ :: _,[],h=>h.elim
theorem ShL.append : ∀ {ss : List Sh} {ds : List Dat} {ss' : List Sh} {ds' : List Dat},ShL ss ds -> ShL ss' ds' -> ShL (ss ++ ss') (ds ++ ds')
 | [],[],_,_,_,h'=>h'
 | _ :: _,_ :: _,_,_,h,h'=>⟨h.1,ShL.append h.2 h'⟩
 | [],_ :: _,_,_,h,_=>h.elim
 | _ :: _,[],_,_,h,_=>h.elim
def zO (g : Nat -> Option (List Sh)) : List Field -> Nat -> Option (List Sh)
 | [],_=>some []
 | fd :: fs,off=>match Nat.beq fd.offset off with
  | true=>match g fd.type with
   | some ss=>match zO g fs (off + ss.length) with
    | some r=>some (ss ++ r)
    | none=>none
   | none=>none
  | false=>none
def hJ (A : List (Nat × K)) (e : Nat) (κ : K) : Bool := A.any fun x=>Nat.beq x.1 e && decide (x.2 = κ)
def nC (P : Program) (τ : Tys) (A : List (Nat × K)) : Nat -> Nat -> Option (List Sh)
 | 0,_=>none
 | f + 1,t=>match P.underlying t with
  | some (.int k)=>some [.int k]
  | some .bool=>some [.bool]
  | some .string=>some [.str]
  | some (.slice e)=>match τ t with
   | some i=>match i.desc with
    | .slice _ κ=>if hJ A e κ = true then some [.seq κ] else if nC P τ A f e = some κ.sh then some [.seq κ] else none
    | _=>none
   | none=>none
  | some (.struct fs)=>match zO (nC P τ A f) fs.toList 0 with
   | some r=>match Nat.beq (P.cellsOf t) r.length with
    | true=>some r
    | false=>none
   | none=>none
  | _=>none
section
variable {P : Program} {τ : Tys} {H : Type} {enc : TypeId × Value -> H} {w : World} {base : Nat} {spare : Nat -> Bool} {held : Bool}
abbrev allIm (w : World) : Nat -> Nat -> Prop := fun b _=>b < w.heap.size
def Holds (w : World) (ds : List Dat) (cs : List Value) : Prop := ds.length = cs.length /\ ∀ (j : Nat) (d : Dat) (v : Value),ds[j]? = some d -> cs[j]? = some v -> RepD w.heap (allIm w) d v
theorem holds_one {d : Dat} {v : Value} (h : RepD w.heap (allIm w) d v) : Holds w [d] [v] := by
 refine ⟨rfl,fun j d' v' h1 h2=>?_⟩
 cases j with
 | zero=>simp at h1 h2;subst h1 h2;exact h
 | succ j=>simp at h1
theorem qe8 {n : Nat} {g : Nat -> Option (List Sh)} {cs : List Value}
 (ih : ∀ t ss c x,g t = some ss -> DataW.trod enc P w base spare held n t c = some x -> ∃ ds,ShL ss ds /\ Holds w ds c) :
 ∀ (fs : List Field) (off : Nat) (r : List Sh) (xs : List (DataW H × List MemPlace)),zO g fs off = some r -> xs.length = fs.length ->
  (∀ (i : Nat) (f : Field),fs[i]? = some f -> DataW.trod enc P w base spare held n f.type ((cs.drop f.offset).take (P.cellsOf f.type)) = xs[i]?) ->
  ∃ ds,ShL r ds /\ ∀ (j : Nat) (d : Dat) (v : Value),ds[j]? = some d -> cs[off + j]? = some v -> RepD w.heap (allIm w) d v
 | [],off,r,xs,h,_,_=>by
  simp only [zO] at h
  cases h
  exact ⟨[],trivial,fun j d v h=>by simp at h⟩
 | fd :: fs,off,r,xs,h,hl,hx=>by
  simp only [zO] at h
  split at h
  . rename_i hoff
    have hoff := Nat.eq_of_beq_eq_true hoff
    split at h
    . rename_i ss hss
      split at h
      . rename_i r' hr'
        cases h
        cases xs with
        | nil=>simp at hl
        | cons x xs =>
         have h0 := hx 0 fd rfl
         simp only [List.getElem?_cons_zero] at h0
         obtain ⟨ds,hsh,hlen,hrep⟩ := ih _ _ _ _ hss h0
         obtain ⟨ds',hsh',hrep'⟩ := qe8 ih fs (off + ss.length) r' xs hr' (by simpa using hl) (fun i f hi=>by simpa using hx (i + 1) f (by simpa using hi))
         refine ⟨ds ++ ds',hsh.append hsh',fun j d v hd hv=>?_⟩
         by_cases hj : j < ds.length
         . rw [List.getElem?_append_left hj] at hd
           refine hrep j d v hd ?_
           have h1 : j < ((cs.drop fd.offset).take (P.cellsOf fd.type)).length := by omega
           rw [List.getElem?_take,if_pos (by simp at h1;omega),List.getElem?_drop,hoff]
           exact hv
         . rw [List.getElem?_append_right omG] at hd
           refine hrep' _ d v hd ?_
           rw [hsh.length] at hj ⊢
           rw [show off + ss.length + (j - ss.length) = off + j from by omega]
           exact hv
      . cases h
    . cases h
  . cases h
theorem qic (_hτ : d6 P τ) {A : List (Nat × K)} (hA : ∀ e κ,hJ A e κ = true -> ∃ f,nC P τ A f e = some κ.sh) : ∀ (n : Nat) (f : Nat) (t : Nat) (ss : List Sh) (cs : List Value) (x : DataW H × List MemPlace),nC P τ A f t = some ss ->
 DataW.trod enc P w base spare held n t cs = some x -> ∃ ds,ShL ss ds /\ Holds w ds cs := by
 intro n
 induction n using Nat.strongRecOn with
 | ind n ih0 =>
  intro f t ss cs x h hx
  cases f with
  | zero=>cases h
  | succ f =>
   simp only [nC] at h
   split at h
   . rename_i k hu
     cases h
     obtain ⟨m,rfl,_,hw⟩ := DataW.trod_int hu hx
     exact ⟨[.int k m],⟨⟨rfl,hw⟩,trivial⟩,holds_one (.int k m)⟩
   . rename_i hu
     cases h
     obtain ⟨b,rfl,_⟩ := DataW.trod_bool hu hx
     exact ⟨[.bool b],⟨trivial,trivial⟩,holds_one (.bool b)⟩
   . rename_i hu
     cases h
     obtain ⟨s,rfl,_,hs⟩ := DataW.trod_string hu hx
     exact ⟨[.str s],⟨hs,trivial⟩,holds_one (.str s)⟩
   . rename_i e hu
     split at h
     . split at h
       . rename_i κ _
         have hsh : (∃ f',nC P τ A f' e = some κ.sh) /\ some [Sh.seq κ] = some ss := by
          split at h
          . rename_i hr;exact ⟨hA _ _ hr,h⟩
          . split at h
            . rename_i hr;exact ⟨⟨f,hr⟩,h⟩
            . cases h
         . obtain ⟨⟨f',hsh⟩,h⟩ := hsh
           cases h
           rcases DataW.trod_slice hu hx with ⟨rfl,_⟩|⟨a,len,cap,elems,rest,n',hn',rfl,_,hb,hl,hm,hlen,hel,_,_⟩
           . exact ⟨[.seq κ []],⟨⟨rfl,Nat.zero_le _,fun x hx=>(by cases hx)⟩,trivial⟩,holds_one (.empty κ [] rfl none 0)⟩
           . by_cases h0 : len = 0
             . subst h0
               exact ⟨[.seq κ []],⟨⟨rfl,Nat.zero_le _,fun x hx=>(by cases hx)⟩,trivial⟩,holds_one (.empty κ [] rfl (some a) cap)⟩
             . have each : ∀ k,k < len -> ∃ (y : κ.T) (cs' : List Value),w.cells? base (a.add (k * P.cellsOf e)) (P.cellsOf e) = some cs' /\ Holds w (κ.enc y) cs' /\ κ.deep y := fun k hk=>by
                have h1 := hel k hk
                have h2 : k < elems.length := by omega
                rw [List.getElem?_eq_getElem h2,Option.bind_eq_some_iff] at h1
                obtain ⟨cs',hcs,hy⟩ := h1
                obtain ⟨ds,hds,hh⟩ := ih0 n' omG _ _ _ _ _ hsh hy
                obtain ⟨y,rfl⟩ := K.of_sh hds
                exact ⟨y,cs',hcs,hh,K.deep_of hds⟩
               have hsz : P.cellsOf e = κ.sz := by
                obtain ⟨y,cs',hcs,hh,_⟩ := each 0 omG
                rw [<- (World.cells?_some hcs).2.1,<- hh.1,κ.enc_length]
               have hpos := κ.sz_pos
               have hspot : a.spot = none := by
                obtain ⟨y,cs',hcs,hh,_⟩ := each 0 omG
                have h1 := (World.cells?_some hcs).2.2 0 omG
                have h2 : 0 < cs'.length := by rw [(World.cells?_some hcs).2.1];omega
                rw [List.getElem?_eq_getElem h2] at h1
                simp only [Nat.zero_mul,Addr.add,if_true] at h1
                unfold World.cell? at h1
                split at h1
                . cases hs : a.spot with
                  | none=>rfl
                  | some z=>simp [hs] at h1
                . cases h1
               obtain ⟨b,o,spot⟩ := a
               simp only at hspot
               subst hspot
               have hadd : ∀ k j,((⟨b,o,none⟩ : Addr).add k).add j = ⟨b,o + k + j,none⟩ := fun k j=>by
                simp only [Addr.add]
                split <;> split <;> simp_all
               have hg : ∃ g : Nat -> κ.T,∀ k,k < len -> ∃ cs',w.cells? base ((⟨b,o,none⟩ : Addr).add (k * P.cellsOf e)) (P.cellsOf e) = some cs' /\ Holds w (κ.enc (g k)) cs' /\ κ.deep (g k) := by
                refine ⟨fun k=>if hk : k < len then (each k hk).choose else κ.dflt,fun k hk=>?_⟩
                simp only [hk,dif_pos]
                exact (each k hk).choose_spec
               obtain ⟨g,hg⟩ := hg
               let l := (List.range len).map g
               have hll : l.length = len := by simp [l]
               have hlg : ∀ k,k < len -> l.getD k κ.dflt = g k := fun k hk=>by simp [l,List.getD_eq_getElem?_getD,hk]
               have hcell' : ∀ k j,k < len -> j < κ.sz -> ∃ v,hcell w.heap b (o + k * κ.sz + j) = some v /\ RepD w.heap (allIm w) ((κ.enc (g k)).getD j (.bool false)) v := fun k j hk hj=>by
                obtain ⟨cs',hcs,hh,_⟩ := hg k hk
                obtain ⟨_,h2,h3⟩ := World.cells?_some hcs
                have h4 := h3 j omG
                rw [hadd,hsz,bK] at h4
                have h5 : j < cs'.length := by omega
                rw [List.getElem?_eq_getElem h5] at h4
                refine ⟨_,h4, ?_⟩
                have h6 : j < (κ.enc (g k)).length := by rw [κ.enc_length];exact hj
                refine hh.2 j _ _ ?_ (List.getElem?_eq_getElem h5)
                rw [List.getD_eq_getElem?_getD,List.getElem?_eq_getElem h6];rfl
               refine ⟨[.seq κ l],⟨⟨rfl,by rw [hll];exact Nat.le_trans hl hm,fun x hx=>?_⟩,trivial⟩,holds_one ?_⟩
               . obtain ⟨k,hk,rfl⟩ := List.mem_map.1 hx
                 exact (hg k (List.mem_range.1 hk)).choose_spec.2.2
               have hR := RepD.seq (h := w.heap) (Im := allIm w) κ l b o cap (fun k j=>(hcell w.heap b (o + k * κ.sz + j)).getD undef) (by rw [hll];exact hl) hm
                (fun k j hk hj=>by obtain ⟨v,h1,_⟩ := hcell' k j omG hj;exact qm4 h1)
                (fun k j hk hj=>by obtain ⟨v,h1,_⟩ := hcell' k j omG hj;rw [h1];rfl)
                (fun k j hk hj=>by
                 obtain ⟨v,h1,h2⟩ := hcell' k j omG hj
                 rw [h1]
                 unfold t6
                 rw [hlg k omG]
                 exact h2)
               rw [hll] at hR
               exact hR
       . cases h
     . cases h
   . rename_i fs hu
     split at h
     . rename_i r hr
       split at h
       . rename_i hc
         have hc := Nat.eq_of_beq_eq_true hc
         cases h
         obtain ⟨xs,n',hn',_,hcl,hxl,hel⟩ := DataW.trod_struct hu hx
         obtain ⟨ds,h1,h2⟩ := qe8 (fun t ss c x h hx=>ih0 n' omG f t ss c x h hx) fs.toList 0 ss xs hr (by simpa using hxl) (fun i f hi=>hel i f (by simpa using hi))
         exact ⟨ds,h1,by rw [h1.length,hcl,hc],fun j d v hd hv=>h2 j d v hd (by simpa using hv)⟩
       . cases h
     . cases h
   . cases h
end
end Vg
namespace Vg
open Go Go.RowKit Go.ChangeShapes
def iZ : List (List Sh) -> List (List Dat) -> Prop
 | [],[]=>True
 | ss :: r,ds :: rs=>ShL ss ds /\ iZ r rs
 | _,_=>False
def sY (τ : Tys) (t : Nat) (ds : List Dat) : AV :=
 match τ t with
 | some i=>match i.agg with
  | true => .agg (ds.map .dat)
  | false=>match ds with
   | [d] => .dat d
   | _ => .any
 | none => .any
def wI (τ : Tys) : List Nat -> List (List Dat) -> List AV
 | t :: ts,ds :: rs=>sY τ t ds :: wI τ ts rs
 | _,_=>[]
section
variable {P : Program} {τ : Tys} {H : Type} {enc : TypeId × Value -> H} {w : World} {base : Nat} {spare : Nat -> Bool} {held : Bool}
theorem recAll {A : List (Nat × K)} (h : ∀ x,x ∈ A -> ∃ f,nC P τ A f x.1 = some x.2.sh) : ∀ e κ,hJ A e κ = true -> ∃ f,nC P τ A f e = some κ.sh := by
 intro e κ hr
 unfold hJ at hr
 rw [List.any_eq_true] at hr
 obtain ⟨x,hx,hb⟩ := hr
 rw [Bool.and_eq_true] at hb
 have h1 := Nat.eq_of_beq_eq_true hb.1
 have h2 := of_decide_eq_true hb.2
 have := h x hx
 rw [h1,h2] at this
 exact this
theorem qok (hτ : d6 P τ) {A : List (Nat × K)} (hA : ∀ e κ,hJ A e κ = true -> ∃ f,nC P τ A f e = some κ.sh) {t f : Nat} {ss : List Sh} {v : Value} {d : DataW H} {ps : List MemPlace} {r : Reach} {b0 : Nat} (hs : nC P τ A f t = some ss)
 (hval : Value.okWide P w r b0 t v) (h : DataW.Trod enc P w base spare held t v d ps) : ∃ ds,ShL ss ds /\ ∀ ρ : Rho,AVR ρ w.heap (allIm w) (sY τ t ds) v := by
 obtain ⟨n,hn⟩ := h
 obtain ⟨ds,h1,h2,h3⟩ := qic hτ hA n f t ss _ _ hs hn
 refine ⟨ds,h1,fun ρ=>?_⟩
 unfold sY
 split
 . rename_i i hi
   obtain ⟨dd,hu,ha,_⟩ := (hτ t i hi).und
   split
   . rename_i hagg
     rw [hagg] at ha
     have : ∃ cs,v = .agg cs := by
      unfold Value.okWide at hval
      rw [hu] at hval
      split at ha
      . obtain ⟨cs,rfl,_⟩ := hval;exact ⟨cs,rfl⟩
      . obtain ⟨cs,rfl,_⟩ := hval;exact ⟨cs,rfl⟩
      . cases ha
     obtain ⟨cs,rfl⟩ := this
     have hcs : (Value.agg cs).cells = cs := rfl
     rw [hcs] at h2 h3
     have hlen : cs.size = ds.length := by simpa using h2.symm
     refine .agg _ cs (fun j=>cs.getD j undef) (by simpa using hlen) (fun j hj=>?_) (fun j a hja=>?_)
     . simp at hj
       have : j < cs.size := by omega
       simp [this]
     . rw [List.getElem?_map] at hja
       cases hd : ds[j]? with
       | none=>simp [hd] at hja
       | some d' =>
        simp [hd] at hja
        subst hja
        have hj : j < cs.size := by have := (List.getElem?_eq_some_iff.1 hd).1;omega
        refine .dat _ _ (h3 j d' _ hd ?_)
        simp [hj]
   . rename_i hagg
     rw [hagg] at ha
     split
     . rename_i d'
       have hv : v.cells = #[v] := by
        cases v with
        | agg cs =>
         exfalso
         unfold Value.okWide at hval
         rw [hu] at hval
         cases dd <;> simp [Cell.okWide,Cell.ok,hu] at hval ha
        | _=>rfl
       rw [hv] at h3
       exact .dat _ _ (h3 0 _ v rfl rfl)
     . exact .any _
 . exact .any _
theorem qhb (hτ : d6 P τ) {A : List (Nat × K)} (hA : ∀ e κ,hJ A e κ = true -> ∃ f,nC P τ A f e = some κ.sh) {f : Nat} {r : Reach} {b0 : Nat} : ∀ (ts : List Nat) (shs : List (List Sh)) (vs : List Value) (ds : List (DataW H)) (ps : List MemPlace),ts.map (nC P τ A f) = shs.map some ->
 (∀ (j : Nat) t v,ts[j]? = some t -> vs[j]? = some v -> Value.okWide P w r b0 t v) -> DataW.TrodAll enc P w base spare held ts vs ds ps ->
 ∃ dss,iZ shs dss /\ (wI τ ts dss).length = vs.length /\ ∀ (ρ : Rho) (j : Nat) (a : AV),(wI τ ts dss)[j]? = some a -> AVR ρ w.heap (allIm w) a (vs.getD j undef)
 | [],shs,vs,ds,ps,hs,_,h=>by
  cases shs with
  | cons=>simp at hs
  | nil =>
   obtain ⟨rfl,_,_⟩ := trodAll_nil h
   exact ⟨[],trivial,rfl,fun ρ j a ha=>by simp [wI] at ha⟩
 | t :: ts,shs,vs,ds,ps,hs,hval,h=>by
  cases shs with
  | nil=>simp at hs
  | cons ss shs =>
   simp only [List.map_cons,List.cons.injEq] at hs
   obtain ⟨hs1,hs2⟩ := hs
   cases vs with
   | nil=>cases ds <;> exact h.elim
   | cons v vs =>
    cases ds with
    | nil=>exact h.elim
    | cons d ds =>
     obtain ⟨p,q,h1,h2,rfl⟩ := h
     obtain ⟨x,hx1,hx2⟩ := qok hτ hA hs1 (hval 0 t v rfl rfl) h1
     obtain ⟨dss,h3,h4,h5⟩ := qhb hτ hA ts shs vs ds q hs2 (fun j t v ht hv=>hval (j + 1) t v (by simpa using ht) (by simpa using hv)) h2
     refine ⟨x :: dss,⟨hx1,h3⟩,by simp [wI,h4],fun ρ j a ha=>?_⟩
     cases j with
     | zero=>simp [wI] at ha;subst ha;exact hx2 ρ
     | succ j=>simp [wI] at ha;simpa using h5 ρ j a ha
theorem qae : ∀ (ts : List Nat) (vs : List Value) (ds : List (DataW H)) (ps : List MemPlace),DataW.TrodAll enc P w base spare held ts vs ds ps -> ds.length = ts.length
 | [],vs,ds,ps,h=>by
  obtain ⟨_,rfl,_⟩ := trodAll_nil h
  rfl
 | t :: ts,vs,ds,ps,h=>by
  cases vs with
  | nil=>cases ds <;> exact h.elim
  | cons v vs =>
   cases ds with
   | nil=>exact h.elim
   | cons d ds =>
    obtain ⟨p,q,_,h2,_⟩ := h
    simp [qae ts vs ds q h2]
theorem qaf (hl : laidOutB P = true) {W W' : World} (hb : Below W.heap.size W W') : ∀ (ts : List Nat) (vs : List Value) (ds : List (DataW H)) (ps : List MemPlace),(∀ t ∈ ts,P.readableRec t = true /\ t < P.types.size) ->
 (∀ x ∈ ps,x.block < W.heap.size) -> DataW.TrodAll enc P W 0 (fun _=>true) true ts vs ds ps -> DataW.TrodAll enc P W' 0 (fun b=>decide (b < W.heap.size)) true ts vs ds ps
 | [],vs,ds,ps,_,_,h=>by
  obtain ⟨rfl,rfl,rfl⟩ := trodAll_nil h
  rfl
 | t :: ts,vs,ds,ps,hr,hlt,h=>by
  cases vs with
  | nil=>cases ds <;> exact h.elim
  | cons v vs =>
   cases ds with
   | nil=>exact h.elim
   | cons d ds =>
    obtain ⟨p,q,h1,h2,rfl⟩ := h
    have := hr t (by simp)
    exact ⟨p,q,Below.trod hl this.1 this.2 h1 hb (fun x hx=>hlt x (by simp [hx])),
     qaf hl hb ts vs ds q (fun t ht=>hr t (by simp [ht])) (fun x hx=>hlt x (by simp [hx])) h2,rfl⟩
theorem qle (hτ : d6 P τ) {A : List (Nat × K)} (hA : ∀ e κ,hJ A e κ = true -> ∃ f,nC P τ A f e = some κ.sh) (hl : laidOutB P = true) {F : FuncId} {fn : Func} {s : ChangeSpec} {W : World} {b0 : Nat} {args : Array Value} {ds gs : List (DataW H)} {before : List MemPlace} {tb f : Nat} {shs : List (List Sh)}
 (hr : ∀ t ∈ fn.params.toList,P.readableRec t = true /\ t < P.types.size) (hres : fn.resultTypes = #[tb]) (htb : P.underlying tb = some .bool) (hvars : s.vars = [])
 (hspec : ∀ ds : List (DataW H),ds.length = fn.params.toList.length -> (s.fn H ds).results = [.lit (.bool true)] /\ (s.fn H ds).args = ds /\ (s.fn H ds).vars = [])
 (hsh : fn.params.toList.map (nC P τ A f) = shs.map some)
 (hcall : ∀ dss,iZ shs dss -> CallsV P F (wI τ fn.params.toList dss) (.dat (.bool true)))
 (hval : ∀ (j : Nat) t v,fn.params[j]? = some t -> args[j]? = some v -> Value.okWide P W .any b0 t v)
 (hW : DataW.Whole enc P fn.params.toList s.vars false W args.toList ds gs before) (hT : TabH W.heap (allIm W)) :
 Calls P F args W fun e W'=>∃ v,e = .returned v /\ s.post enc P fn false true false false W args v W' := by
 have hW' := hW
 obtain ⟨p,q,hTA,hV,rfl,_,_⟩ := hW
 rw [hvars] at hV
 obtain ⟨rfl,rfl⟩ := trodVars_none hV
 obtain ⟨dss,h1,h2,h3⟩ := qhb hτ hA (f := f) fn.params.toList shs args.toList ds p hsh (fun j t v ht hv=>hval j t v (by simpa using ht) (by simpa using hv)) hTA
 have hc := (hcall dss h1).2 W (allIm W) args (by simpa using h2.symm) (fun j a ha=>by
  have := h3 (fun _=>none) j a ha
  simpa [Array.getD_eq_getD_getElem?,List.getD_eq_getElem?_getD] using this) ⟨fun b o h=>h,hT⟩
 refine hc.mono fun e W' ⟨v,res,B',ρ',Im',he,⟨hres',_⟩,hav,_,hext⟩=>?_
 subst hres'
 have hv : v = .bool true := by
  cases hav with|dat d v hd=>cases hd;rfl
 subst hv
 have hb : Below W.heap.size W W' := ⟨hext.os,hext.tape,hext.output,hext.grow,fun k hk=>hext.frame k hk (fun h=>h)⟩
 have hlen := qae _ _ _ _ hTA
 obtain ⟨e1,e2,e3⟩ := hspec ds (by simpa using hlen)
 refine ⟨.bool true,he,ds,[],p ++ [],[],p,[],hW', ?_, ?_, ?_,hb.frame _,fun h=>(by cases h)⟩
 . rw [List.append_nil,e1,hres]
   exact trodAll_mk1 (shut_bool htb true)
 . rw [List.append_nil,e2]
   exact qaf hl hb _ _ _ _ hr (fun x hx=>hW'.lt x (by simpa using hx)) hTA
 . rw [List.append_nil,e3,hvars]
   rfl
end
end Vg
