/- What the operations that only compute do, held against the model. Condition: the table of types is the program's. -/
import Derived.Test.YtfhkodimclmcdaaGreatDoorStep
import Derived.Laws.Slices
import Derived.Laws.Tables
import Derived.StringKeys
import Derived.Laws.MakeOwn
namespace Vg
open Go
structure TyOk (P : Program) (T : Nat) (i : TyI) : Prop where
 info : ∃ x v,P.info? T = some x /\ x.size = i.size /\ x.bytes = i.bytes /\ x.zero = some v /\ v.cells = i.zero.toArray
 zsz : i.zero.length = i.size
 zrep : ∀ (j : Nat) (z : Dat),i.zeroD[j]? = some z -> ∃ v,i.zero[j]? = some v /\ v.oneCell' = true /\ ∀ h Im,RepD h Im z v
 und : ∃ d,P.underlying T = some d /\ (match d with | .struct _ | .array _ _=>true|_=>false) = i.agg /\
  match i.desc with
  | .int k=>d = .int k
  | .bool=>d = .bool
  | .str=>d = .string
  | .flds l=>∃ fs,d = .struct fs /\ fs.size = l.length /\ ∀ (f off E : Nat),l[f]? = some (off,E) -> ∃ fd : Field,fs[f]? = some fd /\ fd.offset = off /\ fd.type = E /\ ∃ x,P.info? E = some x /\ x.size ≠ 0
  | .slice E _=>d = .slice E
  | .ptr E=>d = .pointer E
  | .iface=>∃ ms,d = .interface ms
  | .func=>∃ x y z,d = .func x y z
  | .map=>∃ k e,d = .map k e /\ P.underlying k = some .string /\ ∀ w : World,(zeroValue e).run P w = .ok (.int .i64 0) w
  | .other=>True
def d6 (P : Program) (τ : Tys) : Prop := ∀ T i,τ T = some i -> TyOk P T i
section
variable {P : Program} {τ : Tys} {w0 : World} {G : GP} {Im0 Im : Nat -> Nat -> Prop} {S : AState} {ρ : Rho} {a : Act} {w : World}
theorem constC_rel (h : Array Obj) (v : Value) : AVR ρ h Im (xF v) v := by
 unfold xF
 split
 . exact .dat _ _ (.int _ _)
 . exact .dat _ _ (.bool _)
 . exact .dat _ _ (.str _)
 . exact .dat _ _ .errN
 . exact .nils
 . exact .nilp
 . exact .cell _ rfl
 . exact .nilm
 . exact .cell _ rfl
 . exact .dat _ _ .nof
 . exact .any _
theorem qn1 (h : Array Obj) (v : Value) : AVR ρ h Im (bY v) v := by
 unfold bY
 split
 . rename_i cs
   refine .agg _ cs (fun j=>cs.getD j undef) (by simp) (fun j hj=>?_) (fun j a ha=>?_)
   . simp at hj;simp [hj]
   . rw [List.getElem?_map] at ha
     cases hj : cs.toList[j]? with
     | none=>simp [hj] at ha
     | some v =>
      simp [hj] at ha;subst ha
      have : cs[j]? = some v := by simpa using hj
      simp [this];exact constC_rel h v
 . exact constC_rel h _
theorem j7 (hR : Rel w0 G Im0 S ρ Im a w) (x : Operand) : AVR ρ w.heap Im (ev S x) (a.eval x) := by
 cases x with
 | tmp t=>exact hR.tm t
 | const v=>exact qn1 _ v
 | global g=>exact .cell _ rfl
 | func f=>exact .fn f [] #[] (fun _=>undef) rfl (by simp) (by simp)
theorem RepD.one {h : Array Obj} {d : Dat} {v : Value} (hr : RepD h Im d v) : v.oneCell' = true := by cases hr <;> rfl
theorem AVR.one {h : Array Obj} {b : AV} {v : Value} (hb : b.oneC = true) (hr : AVR ρ h Im b v) : v.oneCell' = true := by
 cases hr <;> first|rfl|assumption|(simp [AV.oneC] at hb;done)|(rename_i hd;exact hd.one)
theorem qgi {v : Value} (h : v.oneCell' = true) : v.cells = #[v] := by cases v <;> first|rfl|(simp [Value.oneCell'] at h)
theorem AVR.cells1 {h : Array Obj} {b : AV} {v : Value} {l : List AV} (hb : b.cells1 = some l) (hr : AVR ρ h Im b v) :
 v.cells.size = l.length /\ ∀ (j : Nat) (x : AV),l[j]? = some x -> ∃ c,v.cells[j]? = some c /\ AVR ρ h Im x c := by
 have one : ∀ {b : AV} {v : Value},b.oneC = true -> b.cells1 = some [b] -> b.cells1 = some l -> AVR ρ h Im b v ->
  v.cells.size = l.length /\ ∀ (j : Nat) (x : AV),l[j]? = some x -> ∃ c,v.cells[j]? = some c /\ AVR ρ h Im x c := by
  intro b v h1 h2 h3 h4
  rw [h2] at h3;cases h3
  rw [qgi (h4.one h1)]
  refine ⟨rfl,fun j x hx=>?_⟩
  cases j with
  | zero=>simp at hx;subst hx;exact ⟨v,rfl,h4⟩
  | succ j=>simp at hx
 cases hr with
 | agg l' cs cf hl hcf hr =>
  simp [AV.cells1] at hb;subst hb
  exact ⟨hl,fun j x hx=>⟨cf j,hcf j (List.getElem?_eq_some_iff.1 hx).1,hr j x hx⟩⟩
 | any v=>simp [AV.cells1] at hb
 | tup l' cs cf hl hcf hr=>simp [AV.cells1] at hb
 | cell v hv=>exact one rfl rfl hb (.cell v hv)
 | dat d v hd=>exact one rfl rfl hb (.dat d v hd)
 | nils=>exact one rfl rfl hb .nils
 | row i r hi=>exact one rfl rfl hb (.row i r hi)
 | rowN i hi=>exact one rfl rfl hb (.rowN i hi)
 | nilm=>exact one rfl rfl hb .nilm
 | nilp=>exact one rfl rfl hb .nilp
 | mp i r hi=>exact one rfl rfl hb (.mp i r hi)
 | mpN i hi=>exact one rfl rfl hb (.mpN i hi)
 | ptr i off r hi=>exact one rfl rfl hb (.ptr i off r hi)
 | eptr κ x j b o cf him hc hr=>exact one rfl rfl hb (.eptr κ x j b o cf him hc hr)
 | rptr i k j sz r hi=>exact one rfl rfl hb (.rptr i k j sz r hi)
 | fn f l cs cf hl hcf hr=>exact one rfl rfl hb (.fn f l cs cf hl hcf hr)
/-! ### loads -/
theorem qj2 {T : Nat} {i : TyI} (ht : TyOk P T i) (w : World) : (isAgg T).run P w = .ok i.agg w := by
 obtain ⟨d,hd,ha,_⟩ := ht.und
 simp only [isAgg,underlying,Sem.run_bind,run_program,Result.andThen_ok,hd,Sem.run_pure]
 rw [<- ha]
 cases d <;> rfl
theorem dD {T : Nat} {i : TyI} (ht : TyOk P T i) (w : World) : (Go.sizeOf T).run P w = .ok i.size w := by
 obtain ⟨x,v,hx,hs,_⟩ := ht.info
 simp only [Go.sizeOf,typeInfo,Sem.run_bind,run_program,Result.andThen_ok,hx,Sem.run_pure,hs]
theorem k8 {T : Nat} {d : TypeDesc} (h : P.underlying T = some d) (w : World) : (underlying T).run P w = .ok d w := by
 simp only [underlying,Sem.run_bind,run_program,Result.andThen_ok,h,Sem.run_pure]
theorem qbi {T : Nat} {i : TyI} (ht : TyOk P T i) (w : World) : ∃ v,(zeroValue T).run P w = .ok v w /\ v.cells = i.zero.toArray := by
 obtain ⟨x,v,hx,_,_,hz,hc⟩ := ht.info
 exact ⟨v,by simp only [zeroValue,typeInfo,Sem.run_bind,run_program,Result.andThen_ok,hx,Sem.run_pure,hz],hc⟩
theorem Addr.add_some (b o n : Nat) : (⟨b,o,none⟩ : Addr).add n = ⟨b,o + n,none⟩ := by
 unfold Addr.add;split
 . rename_i h;subst h;rfl
 . rfl
theorem pQ {T : Nat} {i : TyI} (ht : TyOk P T i) (w : World) (b o : Nat) (cf : Nat -> Value)
 (hc : ∀ j,j < (match i.agg with|true=>i.size|false=>1) -> hcell w.heap b (o + j) = some (cf j)) :
 (loadVar T ⟨b,o,none⟩).run P w = .ok (match i.agg with|true => .agg ((List.range i.size).map cf).toArray|false=>cf 0) w := by
 unfold loadVar
 rw [Sem.run_bind,qj2 ht]
 simp only [Result.andThen_ok]
 cases hag : i.agg with
 | true =>
  simp only [hag] at hc
  simp only [if_true,Sem.run_bind,dD ht,Result.andThen_ok]
  rw [run_loadCells w ⟨b,o,none⟩ i.size cf (fun j hj=>by rw [Addr.add_some,bK];exact hc j hj)]
  simp
 | false =>
  simp only [hag] at hc
  simp only [Bool.false_eq_true,if_false,run_load]
  have := hc 0 omG
  rw [bK,show o = o + 0 from rfl,this]
end
section
variable {P : Program} {τ : Tys} {Im : Nat -> Nat -> Prop} {B : Nat -> Option Blk} {ρ : Rho} {w : World}
theorem RepD.seq_view {h : Array Obj} {κ : K} {l : List κ.T} {v : Value} (hr : RepD h Im (.seq κ l) v) :
 ∃ a cap,v = .slice a l.length cap /\ l.length <= maxLen /\ (l.length ≠ 0 -> ∃ (b o : Nat) (cf : Nat -> Nat -> Value),a = some ⟨b,o,none⟩ /\ l.length <= cap /\ cap <= maxLen /\
  (∀ k j,k < l.length -> j < κ.sz -> Im b (o + k * κ.sz + j)) /\
  (∀ k j,k < l.length -> j < κ.sz -> hcell h b (o + k * κ.sz + j) = some (cf k j)) /\
  (∀ k j,k < l.length -> j < κ.sz -> RepD h Im (t6 κ l k j) (cf k j))) := by
 cases hr with
 | empty _ _ hl a cap=>exact ⟨a,cap,by rw [hl],by rw [hl];exact Nat.zero_le _,fun hn=>absurd hl hn⟩
 | seq _ _ b o cap cf hcap hmax him hc hr=>exact ⟨_,cap,rfl,Nat.le_trans hcap hmax,fun _=>⟨b,o,cf,rfl,hcap,hmax,him,hc,hr⟩⟩
theorem qot {h : Array Obj} {g : Dat -> AV} {ds : List Dat} {cf : Nat -> Value} (hr : ∀ j d,ds[j]? = some d -> AVR ρ h Im (g d) (cf j)) :
 AVR ρ h Im (.agg (ds.map g)) (.agg ((List.range ds.length).map cf).toArray) := by
 refine .agg _ _ cf (by simp) (fun j hj=>?_) (fun j a ha=>?_)
 . simp at hj;simp [hj]
 . rw [List.getElem?_map] at ha
   cases hd : ds[j]? with
   | none=>simp [hd] at ha
   | some d=>simp [hd] at ha;subst ha;exact hr j d hd
theorem qid {h : Array Obj} {F : Nat -> Prop} {d : Dat} {c : Value} (hr : RepT h d c F) : AVR ρ h Im (tP d) c := by
 cases hr with
 | int k n=>exact .dat _ _ (.int k n)
 | bool b=>exact .dat _ _ (.bool b)
 | str s=>exact .dat _ _ (.str s)
 | nil=>exact .cell _ rfl
 | seq=>exact .cell _ rfl
theorem qhj {T : Nat} {i : TyI} {p : AV} {v : Value} {K : AV -> Prop} (ht : TyOk P T i) (E : Env B ρ Im w.heap) (hp : AVR ρ w.heap Im p v)
 (h : wG i B p K) : ∃ av,K av /\ wG i B p (· = av) /\ ∃ u,(Instr.loadAt T v).run P w = .ok u w /\ AVR ρ w.heap Im av u := by
 have enc_case : ∀ (g : Dat -> AV) (κ : Vg.K) (x : κ.T) (j b o : Nat) (cf : Nat -> Value) (K : AV -> Prop),
  (∀ j',j' < κ.sz -> hcell w.heap b (o + j') = some (cf j')) ->
  (∀ j',j' < κ.sz -> AVR ρ w.heap Im (g ((κ.enc x).getD j' (.bool false))) (cf j')) ->
  (match i.agg with
   | true=>match Nat.ble (j + i.size) κ.sz with|true=>K (.agg ((((κ.enc x).drop j).take i.size).map g))|false=>False
   | false=>match (κ.enc x)[j]? with|some d=>K (g d)|none=>False) ->
  ∃ av,K av /\ (match i.agg with
   | true=>match Nat.ble (j + i.size) κ.sz with|true=>(.agg ((((κ.enc x).drop j).take i.size).map g)) = av|false=>False
   | false=>match (κ.enc x)[j]? with|some d=>(g d) = av|none=>False) /\
   ∃ u,(Instr.loadAt T (.pointer (some ⟨b,o + j,none⟩))).run P w = .ok u w /\ AVR ρ w.heap Im av u := by
  intro g κ x j b o cf K hc hr h
  have hlen := κ.enc_length x
  simp only [Instr.loadAt,Instr.sureAddr,pure_bind]
  cases hag : i.agg with
  | true =>
   simp only [hag] at h ⊢
   cases hb : Nat.ble (j + i.size) κ.sz with
   | false=>simp [hb] at h
   | true =>
    simp only [hb] at h ⊢
    have hle : j + i.size <= κ.sz := Nat.le_of_ble_eq_true hb
    have run := pQ ht w b (o + j) (fun k=>cf (j + k)) (by
     simp only [hag];intro k hk;rw [Nat.add_assoc];exact hc _ omG)
    simp only [hag] at run
    refine ⟨_,h,rfl,_,run, ?_⟩
    . have hl : (((κ.enc x).drop j).take i.size).length = i.size := by simp [hlen];omega
      have := qot (ρ := ρ) (Im := Im) (h := w.heap) (g := g) (ds := ((κ.enc x).drop j).take i.size) (cf := fun k=>cf (j + k)) (fun k d hd=>by
       have hk : k < i.size := by
        have := (List.getElem?_eq_some_iff.1 hd).1;omega
       rw [List.getElem?_take_of_lt hk,List.getElem?_drop] at hd
       have := hr (j + k) omG
       rwa [List.getD_eq_getElem?_getD,hd] at this)
      rw [hl] at this;exact this
  | false =>
   simp only [hag] at h ⊢
   cases hd : (κ.enc x)[j]? with
   | none=>simp [hd] at h
   | some d =>
    simp only [hd] at h ⊢
    have hj : j < κ.sz := by have := (List.getElem?_eq_some_iff.1 hd).1;omega
    have run := pQ ht w b (o + j) (fun k=>cf (j + k)) (by
     simp only [hag];intro k hk;have : k = 0 := by omega
     subst this;exact hc _ omG)
    simp only [hag] at run
    refine ⟨_,h,rfl,_,run, ?_⟩
    . have := hr j hj
      rw [List.getD_eq_getElem?_getD,hd] at this
      exact this
 cases hp with
 | ptr id off r hi =>
  simp only [wG] at h ⊢
  cases hB : B id with
  | none=>simp [hB] at h
  | some blk =>
   simp only [hB] at h ⊢
   cases blk with
   | row=>exact h.elim
   | tree=>exact h.elim
   | mp=>exact h.elim
   | it=>exact h.elim
   | box cells =>
    obtain ⟨r',cs,T',hr',hh,hsz,hcs⟩ := E.bl id _ hB
    rw [hi] at hr';cases hr'
    have hcell : ∀ j x,cells[j]? = some x -> hcell w.heap r.b j = some (cs.getD j undef) /\ AVR ρ w.heap Im x (cs.getD j undef) := by
     intro j x hx
     obtain ⟨c,hc1,hc2⟩ := hcs j x hx
     have : cs.getD j undef = c := by simp [hc1]
     rw [this]
     exact ⟨by simp [Vg.hcell,hh,hc1],hc2⟩
    simp only [Instr.loadAt,Instr.sureAddr,pure_bind]
    cases hag : i.agg with
    | true =>
     simp only [hag] at h ⊢
     cases hb : Nat.ble (off + i.size) cells.length with
     | false=>simp [hb] at h
     | true =>
      simp only [hb] at h ⊢
      have hle : off + i.size <= cells.length := Nat.le_of_ble_eq_true hb
      have run := pQ ht w r.b off (fun k=>cs.getD (off + k) undef) (by
       simp only [hag];intro k hk
       exact (hcell (off + k) _ (List.getElem?_eq_getElem omG)).1)
      simp only [hag] at run
      refine ⟨_,h,rfl,_,run, ?_⟩
      . refine .agg _ _ (fun k=>cs.getD (off + k) undef) (by simp;omega) (fun j hj=>?_) (fun j x hx=>?_)
        . simp at hj
          have hj' : j < i.size := by omega
          simp [hj']
        . have hk : j < i.size := by
           have := (List.getElem?_eq_some_iff.1 hx).1;simp at this;omega
          rw [List.getElem?_take_of_lt hk,List.getElem?_drop] at hx
          exact (hcell _ _ hx).2
    | false =>
     simp only [hag] at h ⊢
     cases hd : cells[off]? with
     | none=>simp [hd] at h
     | some c =>
      simp only [hd] at h ⊢
      have run := pQ ht w r.b off (fun k=>cs.getD (off + k) undef) (by
       simp only [hag];intro k hk;have : k = 0 := by omega
       subst this;exact (hcell off _ hd).1)
      simp only [hag] at run
      exact ⟨_,h,rfl,_,run,(hcell _ _ hd).2⟩
 | eptr κ x j b o cf him hc hr =>
  simp only [wG] at h ⊢
  exact enc_case .dat κ x j b o cf K hc (fun j' hj' => .dat _ _ (hr j' hj')) h
 | rptr id k j sz r hi =>
  simp only [wG] at h ⊢
  cases hB : B id with
  | none=>simp [hB] at h
  | some blk =>
   simp only [hB] at h ⊢
   cases blk with
   | box=>exact h.elim
   | mp=>exact h.elim
   | it=>exact h.elim
   | tree T' κ l =>
    simp only at h ⊢
    cases hs : Nat.beq sz κ.sz with
    | false=>simp [hs] at h
    | true =>
     simp only [hs] at h ⊢
     have hsz : sz = κ.sz := Nat.eq_of_beq_eq_true hs
     subst hsz
     obtain ⟨hk,h⟩ := h
     have hbl := E.bl id _ hB
     simp only [BlkR,hi] at hbl
     obtain ⟨h1,h2,h3,cs,Fk,T0,hh,hsz,_,_,hcs⟩ := hbl
     have hkl : ∀ j',j' < κ.sz -> ∃ c,cs[k * κ.sz + j']? = some c /\ RepT w.heap (t6 κ l k j') c (Fk k j') := fun j' hj'=>hcs k j' hk hj'
     obtain ⟨av,h4,h5,h6⟩ := enc_case tP κ (l.getD k κ.dflt) j r.b (k * κ.sz) (fun j'=>cs.getD (k * κ.sz + j') undef) K
      (fun j' hj'=>by obtain ⟨c,hc1,_⟩ := hkl j' hj';simp [Vg.hcell,hh,hc1])
      (fun j' hj'=>by obtain ⟨c,hc1,hc2⟩ := hkl j' hj';simp [hc1];exact qid hc2) h
     exact ⟨av,h4,⟨hk,h5⟩,h6⟩
   | row T' κ l sh =>
    simp only at h ⊢
    cases hs : Nat.beq sz κ.sz with
    | false=>simp [hs] at h
    | true =>
     simp only [hs] at h ⊢
     have hsz : sz = κ.sz := Nat.eq_of_beq_eq_true hs
     subst hsz
     obtain ⟨hk,h⟩ := h
     have hbl := E.bl id _ hB
     simp only [BlkR,hi] at hbl
     obtain ⟨h1,h2,h3,cs,T0,hh,hsz,hcs⟩ := hbl
     have hkl : ∀ j',j' < κ.sz -> ∃ c,cs[k * κ.sz + j']? = some c /\ RepD w.heap Im (t6 κ l k j') c := fun j' hj'=>hcs k j' hk hj'
     obtain ⟨av,h4,h5,h6⟩ := enc_case .dat κ (l.getD k κ.dflt) j r.b (k * κ.sz) (fun j'=>cs.getD (k * κ.sz + j') undef) K
      (fun j' hj'=>by obtain ⟨c,hc1,_⟩ := hkl j' hj';simp [Vg.hcell,hh,hc1])
      (fun j' hj'=>by obtain ⟨c,hc1,hc2⟩ := hkl j' hj';simp [hc1];exact .dat _ _ hc2) h
     exact ⟨av,h4,⟨hk,h5⟩,h6⟩
 | any=>exact h.elim
 | cell=>exact h.elim
 | dat=>exact h.elim
 | nils=>exact h.elim
 | row=>exact h.elim
 | rowN=>exact h.elim
 | nilm=>exact h.elim
 | nilp=>exact h.elim
 | mp=>exact h.elim
 | mpN=>exact h.elim
 | agg=>exact h.elim
 | tup=>exact h.elim
 | fn=>exact h.elim
end
section
variable {P : Program} {τ : Tys} {Im : Nat -> Nat -> Prop} {B : Nat -> Option Blk} {ρ : Rho} {w : World}
theorem i9 {h : Array Obj} {k : IntKind} {n : Int} {v : Value} (hr : AVR ρ h Im (.dat (.int k n)) v) : v = .int k n := by
 cases hr with|dat _ _ hd=>cases hd;rfl
theorem yJ {h : Array Obj} {b : Bool} {v : Value} (hr : AVR ρ h Im (.dat (.bool b)) v) : v = .bool b := by
 cases hr with|dat _ _ hd=>cases hd;rfl
theorem dP {h : Array Obj} {s : ByteArray} {v : Value} (hr : AVR ρ h Im (.dat (.str s)) v) : v = .string s := by
 cases hr with|dat _ _ hd=>cases hd;rfl
theorem eP {h : Array Obj} {κ : K} {l : List κ.T} {v : Value} (hr : AVR ρ h Im (.dat (.seq κ l)) v) : RepD h Im (.seq κ l) v := by
 cases hr with|dat _ _ hd=>exact hd
theorem cH {h : Array Obj} {v : Value} (hr : AVR ρ h Im .nils v) : v = .slice none 0 0 := by cases hr;rfl
theorem mA (h : Array Obj) (k : IntKind) (n : Int) : AVR ρ h Im (.dat (.int k n)) (.int k n) := .dat _ _ (.int k n)
theorem mk_bool (h : Array Obj) (b : Bool) : AVR ρ h Im (.dat (.bool b)) (.bool b) := .dat _ _ (.bool b)
theorem vN (h : Array Obj) (s : ByteArray) : AVR ρ h Im (.dat (.str s)) (.string s) := .dat _ _ (.str s)
theorem qbp {T : Nat} (hd : P.underlying T = some .bool) (a b : Bool) : (Op.equal T (.bool a) (.bool b)).run P w = .ok (a == b) w := by
 unfold Op.equal
 obtain ⟨d,hd'⟩ : ∃ d,Op.maxDepth = d + 1 := ⟨9999,rfl⟩
 rw [hd']
 simp only [Op.equalIn,Sem.run_bind,k8 hd,Result.andThen_ok]
 rfl
theorem abin_sound (hτ : d6 P τ) {op : BinOp} {T : Nat} {x y : Operand} {p q : AV} {v u : Value} {K : AV -> Prop}
 (hp : AVR ρ w.heap Im p v) (hq : AVR ρ w.heap Im q u) (h : jK (τ T) op p q K) :
 ∃ av,K av /\ jK (τ T) op p q (· = av) /\ ∃ r,(do eqGuard op T x y v u;binOp op T v u : Sem Value).run P w = .ok r w /\ AVR ρ w.heap Im av r := by
 unfold jK at h ⊢
 split at h
 . rename_i k a k' b
   obtain rfl := i9 hp
   obtain rfl := i9 hq
   split at h
   . exact ⟨_,h.2,⟨h.1,rfl⟩,_,by simp [eqGuard,binOp,Op.shift,show ¬ b < 0 by have := h.1;omega],mA _ _ _⟩
   . exact ⟨_,h.2,⟨h.1,rfl⟩,_,by simp [eqGuard,binOp,Op.shift,show ¬ b < 0 by have := h.1;omega],mA _ _ _⟩
   . rename_i hn1 hn2
     cases hd : decide (k = k') with
     | false=>simp [hd] at h
     | true =>
      have hk : k = k' := of_decide_eq_true hd
      simp only [hd] at h ⊢
      clear hd
      subst hk
      split at h
      . exact ⟨_,h,rfl,_,by simp [eqGuard,binOp,Op.intArith],mA _ _ _⟩
      . exact ⟨_,h,rfl,_,by simp [eqGuard,binOp,Op.intArith],mA _ _ _⟩
      . exact ⟨_,h,rfl,_,by simp [eqGuard,binOp,Op.intArith],mA _ _ _⟩
      . exact ⟨_,h.2,⟨h.1,rfl⟩,_,by simp [eqGuard,binOp,Op.intDiv,h.1],mA _ _ _⟩
      . exact ⟨_,h.2,⟨h.1,rfl⟩,_,by simp [eqGuard,binOp,Op.intDiv,h.1],mA _ _ _⟩
      . exact ⟨_,h,rfl,_,by simp [eqGuard,binOp,Op.intBits],mA _ _ _⟩
      . exact ⟨_,h,rfl,_,by simp [eqGuard,binOp,Op.intBits],mA _ _ _⟩
      . exact ⟨_,h,rfl,_,by simp [eqGuard,binOp,Op.intBits],mA _ _ _⟩
      . exact ⟨_,h,rfl,_,by simp [eqGuard,binOp,Op.intCmp],mk_bool _ _⟩
      . exact ⟨_,h,rfl,_,by simp [eqGuard,binOp,Op.intCmp],mk_bool _ _⟩
      . exact ⟨_,h,rfl,_,by simp [eqGuard,binOp,Op.intCmp],mk_bool _ _⟩
      . exact ⟨_,h,rfl,_,by simp [eqGuard,binOp,Op.intCmp],mk_bool _ _⟩
      . exact ⟨_,h,rfl,_,by simp [eqGuard,binOp,Op.intCmp],mk_bool _ _⟩
      . exact ⟨_,h,rfl,_,by simp [eqGuard,binOp,Op.intCmp],mk_bool _ _⟩
      . exact h.elim
 . rename_i a b
   obtain rfl := dP hp
   obtain rfl := dP hq
   split at h
   . have hm : (a.size : Int) + b.size <= 9223372036854775807 := by
      have := h.1;unfold maxLen at this;omega
     have e : IntKind.i64.max = 9223372036854775807 := by decide
     exact ⟨_,h.2,⟨h.1,rfl⟩,_,by simp [eqGuard,binOp,Op.stringOp,e,show ¬ (9223372036854775807 : Int) < (a.size : Int) + b.size by omega],vN _ _⟩
   . exact ⟨_,h,rfl,_,by simp [eqGuard,binOp,Op.stringOp],mk_bool _ _⟩
   . exact ⟨_,h,rfl,_,by simp [eqGuard,binOp,Op.stringOp],mk_bool _ _⟩
   . exact ⟨_,h,rfl,_,by simp [eqGuard,binOp,Op.stringOp],mk_bool _ _⟩
   . exact ⟨_,h,rfl,_,by simp [eqGuard,binOp,Op.stringOp],mk_bool _ _⟩
   . exact h.elim
 . rename_i a b
   obtain rfl := yJ hp
   obtain rfl := yJ hq
   cases ht : τ T with
   | none=>simp [ht] at h
   | some i =>
    simp only [ht] at h ⊢
    obtain ⟨d,hd,_,hdesc⟩ := (hτ T i ht).und
    cases hdd : i.desc <;> simp only [hdd] at h hdesc ⊢ <;> first|exact h.elim|skip
    subst hdesc
    split at h
    . exact ⟨_,h,rfl,_,by simp [eqGuard,binOp,qbp hd],mk_bool _ _⟩
    . exact ⟨_,h,rfl,_,by simp [eqGuard,binOp,qbp hd],mk_bool _ _⟩
    . exact h.elim
 . exact h.elim
theorem qbo {T : Nat} {ms : Array (String × TypeId)} (hd : P.underlying T = some (.interface ms)) : (Op.equal T .nilIface .nilIface).run P w = .ok true w := by
 unfold Op.equal
 obtain ⟨d,hd'⟩ : ∃ d,Op.maxDepth = d + 1 := ⟨9999,rfl⟩
 rw [hd']
 simp only [Op.equalIn,Sem.run_bind,k8 hd,Result.andThen_ok]
 rfl
theorem qbn {T : Nat} {ms : Array (String × TypeId)} (hd : P.underlying T = some (.interface ms)) (t : TypeId) (x : Value) : (Op.equal T (.iface t x) .nilIface).run P w = .ok false w := by
 unfold Op.equal
 obtain ⟨d,hd'⟩ : ∃ d,Op.maxDepth = d + 1 := ⟨9999,rfl⟩
 rw [hd']
 simp only [Op.equalIn,Sem.run_bind,k8 hd,Result.andThen_ok]
 rfl
theorem qox (hτ : d6 P τ) {op : BinOp} {T : Nat} {x : Operand} {a : Bool} {v : Value} {Q : AV -> Prop}
 (hp : AVR ρ w.heap Im (.dat (.err a)) v) (h : wM (τ T) op a Q) :
 ∃ av,Q av /\ wM (τ T) op a (· = av) /\ ∃ r,(do eqGuard op T x (.const .nilIface) v .nilIface;binOp op T v .nilIface : Sem Value).run P w = .ok r w /\ AVR ρ w.heap Im av r := by
 cases ht : τ T with
 | none=>simp [ht,wM] at h
 | some i =>
  simp only [ht,wM] at h ⊢
  obtain ⟨d,hd,_,hdesc⟩ := (hτ T i ht).und
  cases hdd : i.desc <;> simp only [hdd] at h hdesc ⊢ <;> first|exact h.elim|skip
  obtain ⟨ms,rfl⟩ := hdesc
  cases hp with
  | dat _ _ hr =>
   cases hr with
   | errN =>
    split at h
    . exact ⟨_,h,rfl,_,by simp [eqGuard,binOp,qbo hd],mk_bool _ _⟩
    . exact ⟨_,h,rfl,_,by simp [eqGuard,binOp,qbo hd],mk_bool _ _⟩
    . exact h.elim
   | errS t x =>
    split at h
    . exact ⟨_,h,rfl,_,by simp [eqGuard,binOp,qbn hd],mk_bool _ _⟩
    . exact ⟨_,h,rfl,_,by simp [eqGuard,binOp,qbn hd],mk_bool _ _⟩
    . exact h.elim
theorem run_equal_fun {T : Nat} {x : Array TypeId} {y : Array TypeId} {z : Bool} (hd : P.underlying T = some (.func x y z)) : (Op.equal T .nilFunc .nilFunc).run P w = .ok true w := by
 unfold Op.equal
 obtain ⟨d,hd'⟩ : ∃ d,Op.maxDepth = d + 1 := ⟨9999,rfl⟩
 rw [hd']
 simp only [Op.equalIn,Sem.run_bind,k8 hd,Result.andThen_ok]
 rfl
theorem run_equal_funS {T : Nat} {x : Array TypeId} {y : Array TypeId} {z : Bool} (hd : P.underlying T = some (.func x y z)) (f : Fn) (l c : Array Value) : (Op.equal T (.func f l c) .nilFunc).run P w = .ok false w := by
 unfold Op.equal
 obtain ⟨d,hd'⟩ : ∃ d,Op.maxDepth = d + 1 := ⟨9999,rfl⟩
 rw [hd']
 simp only [Op.equalIn,Sem.run_bind,k8 hd,Result.andThen_ok]
 rfl
theorem qow (hτ : d6 P τ) {op : BinOp} {T : Nat} {x : Operand} {v : Value} {Q : AV -> Prop}
 (hp : AVR ρ w.heap Im (.dat .nof) v) (h : uE (τ T) op false Q) :
 ∃ av,Q av /\ uE (τ T) op false (· = av) /\ ∃ r,(do eqGuard op T x (.const .nilFunc) v .nilFunc;binOp op T v .nilFunc : Sem Value).run P w = .ok r w /\ AVR ρ w.heap Im av r := by
 cases ht : τ T with
 | none=>simp [ht,uE] at h
 | some i =>
  simp only [ht,uE] at h ⊢
  obtain ⟨d,hd,_,hdesc⟩ := (hτ T i ht).und
  cases hdd : i.desc <;> simp only [hdd] at h hdesc ⊢ <;> first|exact h.elim|skip
  obtain ⟨_,_,_,rfl⟩ := hdesc
  cases hp with
  | dat _ _ hr =>
   cases hr with
   | nof =>
    cases op <;> first|exact h.elim|exact ⟨_,h,rfl,_,by simp [eqGuard,binOp,run_equal_fun hd],mk_bool _ _⟩
theorem qov (hτ : d6 P τ) {op : BinOp} {T : Nat} {x : Operand} {g : Nat} {l : List CapD} {v : Value} {Q : AV -> Prop}
 (hp : AVR ρ w.heap Im (.dat (.clo g l)) v) (h : uE (τ T) op true Q) :
 ∃ av,Q av /\ uE (τ T) op true (· = av) /\ ∃ r,(do eqGuard op T x (.const .nilFunc) v .nilFunc;binOp op T v .nilFunc : Sem Value).run P w = .ok r w /\ AVR ρ w.heap Im av r := by
 cases ht : τ T with
 | none=>simp [ht,uE] at h
 | some i =>
  simp only [ht,uE] at h ⊢
  obtain ⟨d,hd,_,hdesc⟩ := (hτ T i ht).und
  cases hdd : i.desc <;> simp only [hdd] at h hdesc ⊢ <;> first|exact h.elim|skip
  obtain ⟨_,_,_,rfl⟩ := hdesc
  cases hp with
  | dat _ _ hr =>
   cases hr with
   | clo g caps cs =>
    cases op <;> first|exact h.elim|exact ⟨_,h,rfl,_,by simp [eqGuard,binOp,run_equal_funS hd],mk_bool _ _⟩
theorem qdv {h : Array Obj} {xs : List AV} {a : List Int} {v : Value} (ha : intsOf xs = some a) (hr : AVR ρ h Im (.agg xs) v) : v = vI a := by
 cases hr with
 | agg _ cs cf hl hcf hr =>
  have key : ∀ (l : List AV) (b : List Int),intsOf l = some b -> l.length = b.length /\ ∀ j (hj : j < b.length),l[j]? = some (.dat (.int .i64 b[j])) := by
   intro l
   induction l with
   | nil=>intro b hb;simp [intsOf] at hb;subst hb;simp
   | cons x l ih =>
    intro b hb
    unfold intsOf at hb
    split at hb
    . rename_i e;cases e
    . rename_i n l' e
      cases e
      cases hi : intsOf l with
      | none=>rw [hi] at hb;cases hb
      | some r =>
       rw [hi] at hb
       cases hb
       obtain ⟨h1,h2⟩ := ih r hi
       refine ⟨by simp [h1],fun j hj=>?_⟩
       cases j with
       | zero=>rfl
       | succ j=>simpa using h2 j (by simpa using hj)
    . cases hb
  obtain ⟨h1,h2⟩ := key xs a ha
  unfold vI
  congr 1
  apply Array.ext_getElem?
  intro j
  by_cases hj : j < a.length
  . rw [hcf j omG]
    have h3 := hr j _ (h2 j hj)
    rw [i9 h3]
    simp [hj]
  . rw [Array.getElem?_eq_none omG,Array.getElem?_eq_none (by simp;omega)]
theorem qo4 (hτ : d6 P τ) {op : BinOp} {T : Nat} {x y : Operand} {p q : AV} {v u : Value} {K : AV -> Prop}
 (hp : AVR ρ w.heap Im p v) (hq : AVR ρ w.heap Im q u) (h : abinA P τ op T p q K) :
 ∃ av,K av /\ abinA P τ op T p q (· = av) /\ ∃ r,(do eqGuard op T x y v u;binOp op T v u : Sem Value).run P w = .ok r w /\ AVR ρ w.heap Im av r := by
 cases p <;> cases q <;> first|exact abin_sound hτ hp hq h|skip
 rename_i xs ys
 simp only [abinA,gZ] at h ⊢
 cases hxs : intsOf xs with
 | none=>simp [hxs] at h
 | some a =>
  cases hys : intsOf ys with
  | none=>simp [hxs,hys] at h
  | some b =>
   obtain rfl := qdv hxs hp
   obtain rfl := qdv hys hq
   simp only [hxs,hys] at h ⊢
   cases hb : Nat.beq a.length b.length with
   | false=>simp [hb] at h
   | true =>
    have hab := Nat.eq_of_beq_eq_true hb
    simp only [hb] at h ⊢
    split at h
    . exact ⟨_,h.2,⟨h.1,rfl⟩,_,(h.1 x y a b w rfl hab.symm).1,mk_bool _ _⟩
    . exact ⟨_,h.2,⟨h.1,rfl⟩,_,(h.1 x y a b w rfl hab.symm).2,mk_bool _ _⟩
    . exact h.elim
theorem qo2 (hτ : d6 P τ) {op : BinOp} {T : Nat} {x y : Operand} {p q : AV} {v u : Value} {Q : AV -> Prop}
 (hp : AVR ρ w.heap Im p v) (hq : AVR ρ w.heap Im q u) (hy : ∀ c,y = .const c -> u = c) (h : zI P τ op T p y q Q) :
 ∃ av,Q av /\ zI P τ op T p y q (· = av) /\ ∃ r,(do eqGuard op T x y v u;binOp op T v u : Sem Value).run P w = .ok r w /\ AVR ρ w.heap Im av r := by
 by_cases hc : (∃ b,p = .dat (.err b)) /\ y = .const .nilIface
 . obtain ⟨⟨b,rfl⟩,rfl⟩ := hc
   obtain rfl := hy _ rfl
   exact qox hτ (x := x) hp h
 by_cases hc2 : p = .dat .nof /\ y = .const .nilFunc
 . obtain ⟨rfl,rfl⟩ := hc2
   obtain rfl := hy _ rfl
   exact qow hτ (x := x) hp h
 by_cases hc3 : (∃ g l,p = .dat (.clo g l)) /\ y = .const .nilFunc
 . obtain ⟨⟨g,l,rfl⟩,rfl⟩ := hc3
   obtain rfl := hy _ rfl
   exact qov hτ (x := x) hp h
 . have e : ∀ R : AV -> Prop,zI P τ op T p y q R = abinA P τ op T p q R := fun R=>by
    unfold zI
    split
    . exact absurd ⟨⟨_,rfl⟩,rfl⟩ hc
    . exact absurd ⟨rfl,rfl⟩ hc2
    . exact absurd ⟨⟨_,_,rfl⟩,rfl⟩ hc3
    . rfl
   rw [e] at h
   obtain ⟨av,h1,h2,h3⟩ := qo4 hτ (x := x) (y := y) hp hq h
   exact ⟨av,h1,(e _).symm ▸ h2,h3⟩
theorem qof {op : UnOp} {p : AV} {v : Value} {K : AV -> Prop} (hp : AVR ρ w.heap Im p v) (h : aun op p K) :
 ∃ av,K av /\ aun op p (· = av) /\ ∃ r,(Op.unary op v).run P w = .ok r w /\ AVR ρ w.heap Im av r := by
 unfold aun at h ⊢
 split at h
 . obtain rfl := yJ hp
   split at h
   . exact ⟨_,h,rfl,_,by simp [Op.unary],mk_bool _ _⟩
   . exact h.elim
 . obtain rfl := i9 hp
   split at h
   . exact ⟨_,h,rfl,_,by simp [Op.unary,Op.intArith],mA _ _ _⟩
   . exact h.elim
 . exact h.elim
theorem qj4 (P : Program) (s d : Nat) (k k' : IntKind) (n : Int) (w : World) (ds : TypeDesc) (h1 : P.underlying s = some ds) (h2 : P.underlying d = some (.int k)) :
 (convert s d (.int k' n)).run P w = .ok (.int k (k.wrap n)) w := by
 simp only [convert,Sem.run_bind,k8 h1,k8 h2,Result.andThen_ok]
 cases ds <;> rfl
theorem qoy {s d : Nat} {p : AV} {v : Value} {K : AV -> Prop} (hτ : d6 P τ) (hp : AVR ρ w.heap Im p v) (h : nH (τ s) (τ d) p K) :
 ∃ av,K av /\ nH (τ s) (τ d) p (· = av) /\ ∃ r,(convert s d v).run P w = .ok r w /\ AVR ρ w.heap Im av r := by
 cases hs : τ s with
 | none=>simp [hs,nH] at h
 | some is =>
  cases hd : τ d with
  | none=>simp [hs,hd,nH] at h
  | some id =>
   simp only [hs,hd,nH] at h ⊢
   obtain ⟨ds,h1,_⟩ := (hτ s is hs).und
   obtain ⟨dd,h2,_,h3⟩ := (hτ d id hd).und
   split at h
   . rename_i k hk
     simp only [hk] at h3
     subst h3
     split at h
     . obtain rfl := i9 hp
       exact ⟨_,h,rfl,_,qj4 P s d _ _ _ w ds h1 h2,mA _ _ _⟩
     . exact h.elim
   . exact h.elim
theorem qgu {s d : Nat} (hτ : d6 P τ) (h : jP τ (τ s) (τ d) = true) : ∃ E,P.underlying s = some (.slice E) /\ P.underlying E = some (.int .u8) /\ P.underlying d = some .string := by
 cases hs : τ s with
 | none=>simp [hs,jP] at h
 | some is =>
  cases hd : τ d with
  | none=>simp [hs,hd,jP] at h
  | some id =>
   simp only [hs,hd,jP] at h
   obtain ⟨ds,h1,_,h1'⟩ := (hτ s is hs).und
   obtain ⟨dd,h2,_,h2'⟩ := (hτ d id hd).und
   split at h
   . rename_i E κ e1 e2
     simp only [e1] at h1'
     simp only [e2] at h2'
     subst h1' h2'
     split at h
     . rename_i ie e3
       obtain ⟨de,h3,_,h3'⟩ := (hτ E ie e3).und
       split at h
       . rename_i e4
         simp only [e4] at h3'
         subst h3'
         exact ⟨E,h1,h3,h2⟩
       . cases h
     . cases h
   . cases h
theorem qf6 {s d E : Nat} (e1 : P.underlying s = some (.slice E)) (e2 : P.underlying E = some (.int .u8)) (e3 : P.underlying d = some .string) {l : List Int} {b o cap : Nat}
 (hc : ∀ k,k < l.length -> hcell w.heap b (o + k) = some (.int .u8 (l.getD k 0))) : (convert s d (.slice (some ⟨b,o,none⟩) l.length cap)).run P w = .ok (.string (strOfNums l)) w :=
 run_convert_bytes_arg w s E e1 e2 b o l.length cap l rfl (fun i hi=>by rw [bK];exact hc i hi) d e3
theorem qf5 {s d E : Nat} (e1 : P.underlying s = some (.slice E)) (e2 : P.underlying E = some (.int .u8)) (e3 : P.underlying d = some .string) {l : List Int} (hl : l.length = 0) (a : Option Addr) (cap : Nat) :
 (convert s d (.slice a 0 cap)).run P w = .ok (.string (strOfNums l)) w := by
 obtain rfl := List.eq_nil_of_length_eq_zero hl
 cases a with
 | none=>exact run_convert_bytes_nil w s E e1 e2 0 cap d e3
 | some a =>
  rw [run_convert_bytes_string w s d E (some a) 0 cap e1 e2 e3,run_bytesToString w a 0 cap [] (by
   have := run_loadCells_list (P := P) w a [] (fun j v hj=>by simp at hj)
   simpa using this),foldl_push_bytes]
  rfl
theorem qbs {n : Int} {h : Array Obj} {v : Value} (hd : RepD h Im (.int .u8 n) v) : v = .int .u8 n := by cases hd;rfl
theorem qo0 {s d : Nat} {p : AV} {v : Value} {Q : AV -> Prop} (hτ : d6 P τ) (E : Env B ρ Im w.heap) (hp : AVR ρ w.heap Im p v) (h : iK τ B (τ s) (τ d) p Q) :
 ∃ av,Q av /\ iK τ B (τ s) (τ d) p (· = av) /\ ∃ r,(convert s d v).run P w = .ok r w /\ AVR ρ w.heap Im av r := by
 unfold iK at h ⊢
 split at h
 . rename_i i
   split at h
   . rename_i T l sh hb
     unfold xM at h ⊢
     split at h
     . rename_i hbs
       obtain ⟨E',e1,e2,e3⟩ := qgu hτ hbs
       refine ⟨_,h,(by simp only),_, ?_,.dat _ _ (.str _)⟩
       have hB := E.bl i _ hb
       cases hp with
       | rowN _ hi =>
        simp only [BlkR,hi] at hB
        exact qf5 e1 e2 e3 hB none 0
       | row _ r hi =>
        simp only [BlkR,hi] at hB
        obtain ⟨h1,h2,h3,cs,T0,h4,h5,h6⟩ := hB
        rw [h1]
        refine qf6 e1 e2 e3 fun k hk=>?_
        obtain ⟨c,hc1,hc2⟩ := h6 k 0 hk (by decide)
        have hv := qbs (n := l.getD k 0) (by
         have : t6 K.bytes l k 0 = .int .u8 (l.getD k 0) := rfl
         rw [<- this];exact hc2)
        subst hv
        have e : k * K.bytes.sz + 0 = 0 + k := by show k * 1 + 0 = 0 + k;omega
        rw [e] at hc1
        simpa [hcell,h4] using hc1
     . exact h.elim
   . exact h.elim
 . rename_i l
   unfold xM at h ⊢
   split at h
   . rename_i hbs
     obtain ⟨E',e1,e2,e3⟩ := qgu hτ hbs
     refine ⟨_,h,(by simp only),_, ?_,.dat _ _ (.str _)⟩
     cases hp with
     | dat _ _ hd =>
      cases hd with
      | empty _ _ hl a cap=>exact qf5 e1 e2 e3 hl a cap
      | seq _ _ b o cap cf hcap hmax him hc hr =>
       refine qf6 e1 e2 e3 fun k hk=>?_
       have hv := qbs (n := l.getD k 0) (by
        have : t6 K.bytes l k 0 = .int .u8 (l.getD k 0) := rfl
        rw [<- this];exact hr k 0 hk (by decide))
       have e : o + k * K.bytes.sz + 0 = o + k := by show o + k * 1 + 0 = o + k;omega
       have := hc k 0 hk (by decide)
       rw [e,hv] at this
       exact this
   . exact h.elim
 . exact qoy hτ hp h
theorem qoq {T : Nat} {p : AV} {v : Value} {K : AV -> Prop} (hτ : d6 P τ) (E : Env B ρ Im w.heap) (hp : AVR ρ w.heap Im p v) (h : vM B (τ T) p K) :
 ∃ av,K av /\ vM B (τ T) p (· = av) /\ ∃ r,(Builtin.len_ #[T] 3 #[v]).run P w = .ok r w /\ AVR ρ w.heap Im av r := by
 unfold vM at h ⊢
 cases ht : τ T with
 | none=>simp [ht] at h
 | some i =>
  simp only [ht] at h ⊢
  obtain ⟨d,hd,_,hdesc⟩ := (hτ T i ht).und
  split at h
  . rename_i E' κ hdd
    simp only [hdd] at hdesc ⊢
    subst hdesc
    split at h
    . rename_i κ' l
      obtain ⟨a,cap,rfl,hm,_⟩ := (eP hp).seq_view
      exact ⟨_,h hm,fun _=>rfl,_,by simp [Builtin.len_,k8 hd,goInt],mA _ _ _⟩
    . obtain rfl := cH hp
      exact ⟨_,h,rfl,_,by simp [Builtin.len_,k8 hd,goInt],mA _ _ _⟩
    . rename_i id
      split at h
      . rename_i T' κ' l sh hB
        have hb := E.bl id _ hB
        cases hp with
        | row _ r hi =>
         simp only [BlkR,hi] at hb
         obtain ⟨h1,h2,h3,_⟩ := hb
         have hm : l.length <= maxLen := by omega
         refine ⟨_,h hm, ?_,_,by simp [Builtin.len_,k8 hd,goInt,h1],mA _ _ _⟩
         exact fun _=>rfl
        | rowN _ hi =>
         simp only [BlkR,hi] at hb
         have hm : l.length <= maxLen := by rw [hb];exact Nat.zero_le _
         refine ⟨_,h hm,fun _=>rfl,.int .i64 0,by simp [Builtin.len_,k8 hd,goInt], ?_⟩
         rw [hb];exact mA _ _ _
      . rename_i T' κ' l hB
        have hb := E.bl id _ hB
        cases hp with
        | row _ r hi =>
         simp only [BlkR,hi] at hb
         obtain ⟨h1,h2,h3,_⟩ := hb
         have hm : l.length <= maxLen := by omega
         refine ⟨_,h hm, ?_,_,by simp [Builtin.len_,k8 hd,goInt,h1],mA _ _ _⟩
         exact fun _=>rfl
        | rowN _ hi =>
         simp only [BlkR,hi] at hb
         have hm : l.length <= maxLen := by rw [hb];exact Nat.zero_le _
         refine ⟨_,h hm,fun _=>rfl,.int .i64 0,by simp [Builtin.len_,k8 hd,goInt], ?_⟩
         rw [hb];exact mA _ _ _
      . exact h.elim
    . exact h.elim
  . rename_i hdd
    simp only [hdd] at hdesc ⊢
    subst hdesc
    split at h
    . obtain rfl := dP hp
      exact ⟨_,h,rfl,_,by simp [Builtin.len_,k8 hd,goInt],mA _ _ _⟩
    . exact h.elim
  . exact h.elim
end
section
variable {P : Program} {τ : Tys} {Im : Nat -> Nat -> Prop} {B : Nat -> Option Blk} {ρ : Rho} {w : World}
theorem qj3 {T f off E b o : Nat} {i : TyI} {l : List (Nat × Nat)} (ht : TyOk P T i) (hd : i.desc = .flds l) (hf : l[f]? = some (off,E)) :
 (Instr.fieldAt T (.pointer (some ⟨b,o,none⟩)) f).run P w = .ok (.pointer (some ⟨b,o + off,none⟩)) w := by
 obtain ⟨d,h1,_,h2⟩ := ht.und
 simp only [hd] at h2
 obtain ⟨fs,rfl,hsz,hall⟩ := h2
 obtain ⟨fd,hfd,rfl,rfl,x,hx,hx0⟩ := hall f off E hf
 have hs : (Go.sizeOf fd.type).run P w = .ok x.size w := by simp [Go.sizeOf,typeInfo,hx]
 simp only [Instr.fieldAt,Sem.run_bind,k8 h1,Result.andThen_ok,hfd,Instr.sureAddr,pure_bind,fieldPlace,hs,hx0,if_false,Sem.run_pure,Addr.add_some]
/-! ### the parts of a literal -/
theorem iU : ∀ (vs : List AV) (cells : List AV) (off : Nat),(sD cells off vs).length = cells.length
 | [],_,_=>rfl
 | v :: vs,cells,off=>by simp [sD,iU vs]
theorem jU : ∀ (vs : List AV) (cells : List AV) (off k : Nat),off + vs.length <= cells.length ->
 (sD cells off vs)[k]? = if off <= k /\ k < off + vs.length then vs[k - off]? else cells[k]?
 | [],cells,off,k,_=>by simp [sD];omega
 | v :: vs,cells,off,k,h=>by
  simp only [List.length_cons] at h
  rw [sD,jU vs _ _ _ (by simp;omega)]
  by_cases h1 : off + 1 <= k /\ k < off + 1 + vs.length
  . rw [if_pos h1,if_pos (by simp;omega)]
    rw [show k - off = (k - (off + 1)) + 1 from by omega];rfl
  . rw [if_neg h1]
    by_cases h2 : k = off
    . subst h2
      rw [if_pos (by simp),List.getElem?_set_self omG]
      simp
    . rw [if_neg (by simp;omega),List.getElem?_set_ne omG]
theorem lX (off : Nat) : ∀ (vs : List Value) (k0 : Nat) (cs : Array Value),((vs.zipIdx k0).foldl (fun cs (x : Value × Nat)=>cs.setIfInBounds (off + x.2) x.1) cs).size = cs.size
 | [],_,_=>rfl
 | v :: vs,k0,cs=>by simp only [List.zipIdx_cons,List.foldl_cons];rw [lX off vs];simp
theorem mX (off : Nat) : ∀ (vs : List Value) (k0 : Nat) (cs : Array Value) (k : Nat),off + k0 + vs.length <= cs.size ->
 ((vs.zipIdx k0).foldl (fun cs (x : Value × Nat)=>cs.setIfInBounds (off + x.2) x.1) cs)[k]? = if off + k0 <= k /\ k < off + k0 + vs.length then vs[k - (off + k0)]? else cs[k]?
 | [],k0,cs,k,_=>by simp;omega
 | v :: vs,k0,cs,k,h=>by
  simp only [List.length_cons] at h
  simp only [List.zipIdx_cons,List.foldl_cons]
  rw [mX off vs (k0 + 1) _ k (by simp;omega)]
  by_cases h1 : off + (k0 + 1) <= k /\ k < off + (k0 + 1) + vs.length
  . rw [if_pos h1,if_pos (by simp;omega)]
    rw [show k - (off + k0) = (k - (off + (k0 + 1))) + 1 from by omega];rfl
  . rw [if_neg h1]
    by_cases h2 : k = off + k0
    . subst h2
      rw [if_pos (by simp)]
      simp [Array.getElem?_setIfInBounds];omega
    . rw [if_neg (by simp;omega),Array.getElem?_setIfInBounds_ne omG]
def CellsR (ρ : Rho) (h : Array Obj) (Im : Nat -> Nat -> Prop) (l : List AV) (cs : Array Value) : Prop :=
 cs.size = l.length /\ ∀ (j : Nat) (x : AV),l[j]? = some x -> ∃ c,cs[j]? = some c /\ AVR ρ h Im x c
theorem CellsR.agg {h : Array Obj} {l : List AV} {cs : Array Value} (hc : CellsR ρ h Im l cs) : AVR ρ h Im (.agg l) (.agg cs) := by
 refine .agg l cs (fun j=>cs.getD j undef) hc.1 (fun j hj=>?_) (fun j x hx=>?_)
 . have : j < cs.size := by rw [hc.1];exact hj
   simp [this]
 . obtain ⟨c,h1,h2⟩ := hc.2 j x hx
   simpa [h1] using h2
theorem CellsR.fill {h : Array Obj} {l vs : List AV} {cs us : Array Value} {off : Nat} (hc : CellsR ρ h Im l cs) (hv : CellsR ρ h Im vs us) (ho : off + vs.length <= l.length) :
 CellsR ρ h Im (sD l off vs) (us.zipIdx.foldl (fun cs (x : Value × Nat)=>cs.setIfInBounds (off + x.2) x.1) cs) := by
 have e : us.zipIdx.foldl (fun cs (x : Value × Nat)=>cs.setIfInBounds (off + x.2) x.1) cs = (us.toList.zipIdx 0).foldl (fun cs (x : Value × Nat)=>cs.setIfInBounds (off + x.2) x.1) cs := by
  rw [<- Array.foldl_toList,Array.toList_zipIdx]
 rw [e]
 have hul : us.toList.length = vs.length := by simpa using hv.1
 refine ⟨by rw [lX,iU];exact hc.1,fun j x hx=>?_⟩
 rw [jU _ _ _ _ ho] at hx
 rw [mX off _ 0 cs j (by rw [hul,hc.1];omega)]
 simp only [Nat.add_zero,hul]
 split at hx
 . rename_i hin
   rw [if_pos hin]
   obtain ⟨c,h1,h2⟩ := hv.2 _ x hx
   exact ⟨c,by simpa using h1,h2⟩
 . rename_i hin
   rw [if_neg hin]
   exact hc.2 j x hx
theorem kZ {i : TyI} (h : Array Obj) : CellsR ρ h Im (i.zero.map xF) i.zero.toArray := by
 refine ⟨by simp,fun j x hx=>?_⟩
 rw [List.getElem?_map] at hx
 cases hz : i.zero[j]? with
 | none=>simp [hz] at hx
 | some v=>simp [hz] at hx;subst hx;exact ⟨v,by simpa using hz,constC_rel h v⟩
theorem bZ (hτ : d6 P τ) {fl : List (Nat × Nat)} {e : Operand -> AV} {ev' : Operand -> Value} (hev : ∀ x,AVR ρ w.heap Im (e x) (ev' x))
 {place : Nat -> Option (Nat × Nat)} (hpl : ∀ f off T i,fl[f]? = some (off,T) -> τ T = some i -> place f = some (off,i.size)) :
 ∀ (parts : List (Nat × Operand)) (cells : List AV) (cs : Array Value) (K : List AV -> Prop),CellsR ρ w.heap Im cells cs -> kC τ fl e parts cells K ->
  ∃ out,K out /\ (∀ K',K' out -> kC τ fl e parts cells K') /\ ∃ os,Instr.fill place cs (parts.map fun x=>(x.1,ev' x.2)) = some os /\ CellsR ρ w.heap Im out os
 | [],cells,cs,K,hc,h=>⟨cells,h,fun _ h=>h,cs,rfl,hc⟩
 | (f,x) :: rest,cells,cs,K,hc,h=>by
  simp only [kC] at h ⊢
  cases hf : fl[f]? with
  | none=>simp [hf] at h
  | some ot =>
   obtain ⟨off,T⟩ := ot
   simp only [hf] at h ⊢
   cases hT : τ T with
   | none=>simp [hT] at h
   | some i =>
    simp only [hT] at h ⊢
    have hp := hpl f off T i hf hT
    simp only [List.map_cons,Instr.fill,hp]
    cases hag : i.agg with
    | true =>
     simp only [hag] at h ⊢
     have hx := hev x
     generalize e x = ex at h hx ⊢
     cases ex <;> try exact h.elim
     rename_i l
     simp only at h ⊢
     cases h1 : Nat.beq l.length i.size with
     | false=>simp [h1] at h
     | true =>
      cases h2 : Nat.ble (off + i.size) cells.length with
      | false=>simp [h1,h2] at h
      | true =>
       simp only [h1,h2] at h ⊢
       have e1 : l.length = i.size := Nat.eq_of_beq_eq_true h1
       have e2 := Nat.le_of_ble_eq_true h2
       have hv := hx.cells1 (l := l) rfl
       have hn : ¬ ((ev' x).cells.size ≠ i.size \/ off + (ev' x).cells.size > cs.size) := by rw [hv.1,hc.1];omega
       simp only [decide_eq_true_eq,Bool.or_eq_true,if_neg hn]
       exact bZ hτ hev hpl rest _ _ K (hc.fill hv omG) h
    | false =>
     simp only [hag] at h ⊢
     cases h1 : Nat.beq i.size 1 with
     | false=>simp [h1] at h
     | true =>
      cases h2 : Nat.ble (off + 1) cells.length with
      | false=>simp [h1,h2] at h
      | true =>
       cases h3 : (e x).oneC with
       | false=>simp [h1,h2,h3] at h
       | true =>
        simp only [h1,h2,h3] at h ⊢
        have e1 : i.size = 1 := Nat.eq_of_beq_eq_true h1
        have e2 := Nat.le_of_ble_eq_true h2
        have hone := (hev x).one h3
        have hcells := qgi hone
        have hv : CellsR ρ w.heap Im [e x] (ev' x).cells := by
         rw [hcells]
         refine ⟨rfl,fun j y hy=>?_⟩
         cases j with
         | zero=>simp at hy;subst hy;exact ⟨_,rfl,hev x⟩
         | succ j=>simp at hy
        have hn : ¬ ((ev' x).cells.size ≠ i.size \/ off + (ev' x).cells.size > cs.size) := by
         have : (ev' x).cells.size = 1 := hv.1
         rw [this,hc.1];omega
        simp only [decide_eq_true_eq,Bool.or_eq_true,if_neg hn]
        exact bZ hτ hev hpl rest _ _ K (hc.fill hv (by simpa using e2)) h
end
section
variable {P : Program} {τ : Tys} {Im : Nat -> Nat -> Prop} {B : Nat -> Option Blk} {ρ : Rho} {w : World}
theorem RepD.slice {h : Array Obj} {κ : K} {xs : List κ.T} {a : Option Addr} {cap l u : Nat} (hr : RepD h Im (.seq κ xs) (.slice a xs.length cap)) (hlu : l <= u) (hu : u <= xs.length) :
 RepD h Im (.seq κ ((xs.take u).drop l)) (.slice (if cap = l then a else a.map (·.add (l * κ.sz))) (u - l) (cap - l)) := by
 have hlen : ((xs.take u).drop l).length = u - l := by simp;omega
 by_cases h0 : u - l = 0
 . rw [h0]
   exact .empty κ _ (by rw [hlen,h0]) _ _
 . obtain ⟨a',cap',he,hm,hrest⟩ := hr.seq_view
   cases he
   obtain ⟨b,o,cf,ha,hcap,hmax,him,hc,hrr⟩ := hrest omG
   cases ha
   have hne : cap ≠ l := by omega
   rw [if_neg hne]
   simp only [Option.map_some,Addr.add_some]
   have hk : ∀ k j,o + l * κ.sz + k * κ.sz + j = o + (l + k) * κ.sz + j := fun k j=>by rw [Nat.add_mul];omega
   have := RepD.seq (h := h) (Im := Im) κ ((xs.take u).drop l) b (o + l * κ.sz) (cap - l) (fun k j=>cf (l + k) j) (by rw [hlen];omega) omG
    (fun k j h1 h2=>by rw [hk];rw [hlen] at h1;exact him _ _ omG h2)
    (fun k j h1 h2=>by rw [hk];rw [hlen] at h1;exact hc _ _ omG h2)
    (fun k j h1 h2=>by
     rw [hlen] at h1
     have := hrr (l + k) j omG h2
     unfold t6 at this ⊢
     have e : ((xs.take u).drop l).getD k κ.dflt = xs.getD (l + k) κ.dflt := by
      simp only [List.getD_eq_getElem?_getD,List.getElem?_drop,List.getElem?_take]
      rw [if_pos omG]
     rwa [e])
   rw [hlen] at this
   exact this
theorem gM {T E : Nat} (h : P.underlying T = some (.slice E)) : P.elem T = E := by simp [Program.elem,h]
theorem qoi (hτ : d6 P τ) {T : Nat} {p : AV} {lo hi : Option AV} {v : Value} {vlo vhi : Option Value} {K : AV -> Prop} (hp : AVR ρ w.heap Im p v)
 (hlo : (lo = none /\ vlo = none) \/ ∃ x y,lo = some x /\ vlo = some y /\ AVR ρ w.heap Im x y)
 (hhi : (hi = none /\ vhi = none) \/ ∃ x y,hi = some x /\ vhi = some y /\ AVR ρ w.heap Im x y) (h : uI τ (τ T) (some p) lo hi K) :
 ∃ av,K av /\ uI τ (τ T) (some p) lo hi (· = av) /\ ∃ r,(Instr.sliceAt T v vlo vhi none).run P w = .ok r w /\ AVR ρ w.heap Im av r := by
 cases ht : τ T with
 | none=>simp [uI,ht] at h
 | some i =>
  simp only [uI,ht] at h ⊢
  obtain ⟨d,hd,_,hdesc⟩ := (hτ T i ht).und
  split at h
  . -- a string
    rename_i s hs
    cases hs
    obtain rfl := dP hp
    cases hdd : i.desc <;> simp only [hdd] at h hdesc ⊢ <;> first|exact h.elim|skip
    subst hdesc
    have hst : ∀ lo hi,(Instr.sliceAt T (.string s) lo hi none).run P w = (Instr.slice T (.string s) lo hi none).run P w := fun lo hi=>run_sliceAt_string w T _ lo hi none hd
    rw [hst]
    rcases hlo with ⟨rfl,rfl⟩|⟨x,y,rfl,rfl,hxy⟩ <;> rcases hhi with ⟨rfl,rfl⟩|⟨x',y',rfl,rfl,hxy'⟩
    . exact ⟨_,h,rfl,_,by simp [Instr.slice,k8 hd,Instr.sliceBounds],vN _ _⟩
    . split at h <;> rename_i e1 e2 <;> simp at e1 e2 <;> try exact h.elim
      rename_i k u
      subst e2
      obtain rfl := i9 hxy'
      exact ⟨_,h.2,⟨h.1,rfl⟩,_,by simp [Instr.slice,k8 hd,Instr.sliceBounds,run_sliceBound w _ u _ _ h.1.1 h.1.2],vN _ _⟩
    . split at h <;> rename_i e1 e2 <;> simp at e1 e2 <;> try exact h.elim
      rename_i k u
      subst e1
      obtain rfl := i9 hxy
      exact ⟨_,h.2,⟨h.1,rfl⟩,_,by simp [Instr.slice,k8 hd,Instr.sliceBounds,run_sliceBound w _ u _ _ h.1.1 h.1.2],vN _ _⟩
    . split at h <;> rename_i e1 e2 <;> simp at e1 e2 <;> try exact h.elim
      rename_i k l k' u
      subst e1 e2
      obtain rfl := i9 hxy
      obtain rfl := i9 hxy'
      have hu : ((u.toNat : Nat) : Int) = u := Int.toNat_of_nonneg omG
      refine ⟨_,h.2,⟨h.1,rfl⟩,_, ?_,vN _ _⟩
      simp [Instr.slice,k8 hd,Instr.sliceBounds,run_sliceBound w _ u _ _ (show 0 <= u by omega) h.1.2.2,run_sliceBound w _ l u.toNat _ h.1.1 omG]
  . -- a row
    rename_i κ xs hs
    cases hs
    cases hdd : i.desc <;> simp only [hdd] at h hdesc ⊢ <;> first|exact h.elim|skip
    rename_i E κ'
    subst hdesc
    cases hE : τ E with
    | none=>simp [hE] at h
    | some ie =>
     simp only [hE] at h ⊢
     cases hsz : Nat.beq ie.size κ.sz with
     | false=>simp [hsz] at h
     | true =>
      simp only [hsz] at h ⊢
      have hsz' : ie.size = κ.sz := Nat.eq_of_beq_eq_true hsz
      have hel : P.underlying T = some (.slice (P.elem T)) := by rw [gM hd];exact hd
      have hso : (Go.sizeOf (P.elem T)).run P w = .ok κ.sz w := by rw [gM hd,<- hsz'];exact dD (hτ E ie hE) w
      have hrp := eP hp
      obtain ⟨a,cap,rfl,hm,hrest⟩ := hrp.seq_view
      have hcap : xs.length <= cap \/ xs.length = 0 := by
       by_cases h0 : xs.length = 0
       . exact .inr h0
       . obtain ⟨_,_,_,_,hc,_⟩ := hrest h0;exact .inl hc
      have hst : ∀ v lo hi,(Instr.sliceAt T v lo hi none).run P w = (Instr.slice T v lo hi none).run P w := fun v lo hi=>run_sliceAt_slice w T v lo hi none hel
      rw [hst]
      rcases hlo with ⟨rfl,rfl⟩|⟨x,y,rfl,rfl,hxy⟩ <;> rcases hhi with ⟨rfl,rfl⟩|⟨x',y',rfl,rfl,hxy'⟩
      . have := hrp.slice (l := 0) (u := xs.length) (Nat.zero_le _) (Nat.le_refl _)
        rw [List.take_length,List.drop_zero] at this
        exact ⟨_,h,rfl,sliced a 0 xs.length cap κ.sz,by rw [run_slice_all w T a _ cap hel,hso];rfl,.dat _ _ this⟩
      . split at h <;> rename_i e1 e2 <;> simp at e1 e2 <;> try exact h.elim
        rename_i k u
        subst e2
        obtain rfl := i9 hxy'
        have := hrp.slice (l := 0) (u := u.toNat) (Nat.zero_le _) omG
        rw [List.drop_zero] at this
        exact ⟨_,h.2,⟨h.1,rfl⟩,sliced a 0 u.toNat cap κ.sz,by rw [run_slice_h w T a _ cap hel k u h.1.1 omG,hso];rfl,.dat _ _ this⟩
      . split at h <;> rename_i e1 e2 <;> simp at e1 e2 <;> try exact h.elim
        rename_i k u
        subst e1
        obtain rfl := i9 hxy
        have := hrp.slice (l := u.toNat) (u := xs.length) omG (Nat.le_refl _)
        rw [List.take_length] at this
        exact ⟨_,h.2,⟨h.1,rfl⟩,sliced a u.toNat xs.length cap κ.sz,by rw [run_slice_l w T a _ cap hel k u h.1.1 h.1.2,hso];rfl,.dat _ _ this⟩
      . split at h <;> rename_i e1 e2 <;> simp at e1 e2 <;> try exact h.elim
        rename_i k l k' u
        subst e1 e2
        obtain rfl := i9 hxy
        obtain rfl := i9 hxy'
        have := hrp.slice (l := l.toNat) (u := u.toNat) omG omG
        exact ⟨_,h.2,⟨h.1,rfl⟩,sliced a l.toNat u.toNat cap κ.sz,by rw [run_slice_lh w T a _ cap hel k k' l u h.1.1 h.1.2.1 omG,hso];rfl,.dat _ _ this⟩
  . exact h.elim
theorem qln (hτ : d6 P τ) {T E κ' : _} {i ie : TyI} {κ : K} {l : List κ.T} {v : Value} {k : IntKind} {n : Int} (ht : τ T = some i) (hd : i.desc = .slice E κ') (hE : τ E = some ie)
 (hsz : ie.size = κ.sz) (hp : AVR ρ w.heap Im (.dat (.seq κ l)) v) (h0 : 0 <= n) (h1 : n < l.length) :
 ∃ r,(Instr.indexAt T v (.int k n)).run P w = .ok r w /\ AVR ρ w.heap Im (.eptr κ (l.getD n.toNat κ.dflt) 0) r := by
 obtain ⟨d,hdd,_,hdesc⟩ := (hτ T i ht).und
 simp only [hd] at hdesc
 subst hdesc
 obtain ⟨a,cap,rfl,hm,hrest⟩ := (eP hp).seq_view
 obtain ⟨b,o,cf,rfl,hcap,hmax,him,hc,hr⟩ := hrest omG
 have hn : n.toNat < l.length := by omega
 refine ⟨.pointer (some ⟨b,o + n.toNat * κ.sz,none⟩), ?_, ?_⟩
 . simp [Instr.indexAt,asIntOf,k8 hdd,h0,h1,dD (hτ E ie hE),hsz,Addr.add_some]
 . exact .eptr κ _ 0 b (o + n.toNat * κ.sz) (fun j=>cf n.toNat j) (fun j hj=>him _ _ hn hj) (fun j hj=>hc _ _ hn hj) (fun j hj=>hr _ _ hn hj)
theorem qlm (hτ : d6 P τ) (E' : Env B ρ Im w.heap) {T E κ' T' : _} {i ie : TyI} {κ : K} {l : List κ.T} {sh : Bool} {id : Nat} {v : Value} {k : IntKind} {n : Int} (ht : τ T = some i) (hd : i.desc = .slice E κ') (hE : τ E = some ie)
 (hsz : ie.size = κ.sz) (hB : B id = some (.row T' κ l sh)) (hp : AVR ρ w.heap Im (.row id) v) (h0 : 0 <= n) (h1 : n < l.length) :
 ∃ r,(Instr.indexAt T v (.int k n)).run P w = .ok r w /\ AVR ρ w.heap Im (.rptr id n.toNat 0 κ.sz) r := by
 obtain ⟨d,hdd,_,hdesc⟩ := (hτ T i ht).und
 simp only [hd] at hdesc
 subst hdesc
 have hb := E'.bl id _ hB
 cases hp with
 | row _ r hi =>
  simp only [BlkR,hi] at hb
  refine ⟨.pointer (some ⟨r.b,n.toNat * κ.sz + 0,none⟩), ?_,.rptr id n.toNat 0 κ.sz r hi⟩
  have h1' : n < (r.len : Int) := by rw [hb.1];exact h1
  simp [Instr.indexAt,asIntOf,k8 hdd,h0,h1',dD (hτ E ie hE),hsz,Addr.add_some]
 | rowN _ hi =>
  simp only [BlkR,hi] at hb
  omega
theorem qll (hτ : d6 P τ) (E' : Env B ρ Im w.heap) {T E κ' T' : _} {i ie : TyI} {κ : K} {l : List κ.T} {id : Nat} {v : Value} {k : IntKind} {n : Int} (ht : τ T = some i) (hd : i.desc = .slice E κ') (hE : τ E = some ie)
 (hsz : ie.size = κ.sz) (hB : B id = some (.tree T' κ l)) (hp : AVR ρ w.heap Im (.row id) v) (h0 : 0 <= n) (h1 : n < l.length) :
 ∃ r,(Instr.indexAt T v (.int k n)).run P w = .ok r w /\ AVR ρ w.heap Im (.rptr id n.toNat 0 κ.sz) r := by
 obtain ⟨d,hdd,_,hdesc⟩ := (hτ T i ht).und
 simp only [hd] at hdesc
 subst hdesc
 have hb := E'.bl id _ hB
 cases hp with
 | row _ r hi =>
  simp only [BlkR,hi] at hb
  refine ⟨.pointer (some ⟨r.b,n.toNat * κ.sz + 0,none⟩), ?_,.rptr id n.toNat 0 κ.sz r hi⟩
  have h1' : n < (r.len : Int) := by rw [hb.1];exact h1
  simp [Instr.indexAt,asIntOf,k8 hdd,h0,h1',dD (hτ E ie hE),hsz,Addr.add_some]
 | rowN _ hi =>
  simp only [BlkR,hi] at hb
  omega
end
section
variable {P : Program} {τ : Tys} {Im Im' : Nat -> Nat -> Prop} {B : Nat -> Option Blk} {ρ ρ' : Rho} {h h' : Array Obj} {w w' : World}
def lB (B : Nat -> Option Blk) (ρ : Rho) (Im : Nat -> Nat -> Prop) : Bool -> Nat -> Nat -> Prop
 | false=>Im
 | true=>fun b o=>Im b o \/ (∃ i T κ l sh r,B i = some (.row T κ l sh) /\ ρ i = some r /\ b = r.b /\ o < l.length * κ.sz) \/ ∃ i T κ l r,B i = some (.tree T κ l) /\ ρ i = some r /\ r.has b
theorem dO (B : Nat -> Option Blk) (ρ : Rho) (c : Bool) {b o : Nat} (hI : Im b o) : lB B ρ Im c b o := by cases c <;> first|exact hI|exact .inl hI
theorem qda {c d : Bool} {b o : Nat} (hI : lB B ρ Im c b o) : lB B ρ Im (c || d) b o := by
 cases c <;> cases d <;> first|exact hI|exact .inl hI
theorem qc9 {c d : Bool} {b o : Nat} (hI : lB B ρ Im d b o) : lB B ρ Im (c || d) b o := by
 cases c <;> cases d <;> first|exact hI|exact .inl hI
theorem qdb (E : Env B ρ Im h) (c : Bool) {b o : Nat} (hI : lB B ρ Im c b o) : b < h.size := by
 cases c with
 | false=>exact E.imlt b o hI
 | true =>
  rcases hI with hI|⟨i,T,κ,l,sh,r,hB,hr,rfl,_⟩|⟨i,T,κ,l,r,hB,hr,hx⟩
  . exact E.imlt b o hI
  . have := E.bl i _ hB
    simp only [BlkR,hr] at this
    obtain ⟨_,_,_,cs,T0,hh,_⟩ := this
    exact (Array.getElem?_eq_some_iff.1 hh).1
  . exact E.lt (by simp [hB]) hr hx
theorem vT {i T : Nat} {κ : K} {l : List κ.T} {v : Value} (E : Env B ρ Im h) (hB : B i = some (.tree T κ l)) (hv : AVR ρ h Im (.row i) v)
 (hl : ∀ r x o,ρ i = some r -> r.has x -> Im' x o) : RepD h Im' (.seq κ l) v := by
 have hb := E.bl i _ hB
 cases hv with
 | row _ r hi =>
  simp only [BlkR,hi] at hb
  obtain ⟨h1,h2,h3,cs,Fk,T0,hh,hsz,hF,_,hcs⟩ := hb
  rw [h1]
  refine .seq κ l r.b 0 r.cap (fun k j=>cs.getD (k * κ.sz + j) undef) omG h3 (fun k j hk hj=>hl r _ _ hi (.inl rfl)) (fun k j hk hj=>?_) (fun k j hk hj=>?_)
  . obtain ⟨c,hc1,_⟩ := hcs k j hk hj
    simp [hcell,hh,hc1]
  . obtain ⟨c,hc1,hc2⟩ := hcs k j hk hj
    simp only [Array.getD_eq_getD_getElem?,hc1,Option.getD_some]
    exact hc2.melt fun x o hx=>hl r x o hi (.inr (hF k j x hk hj hx).1)
 | rowN _ hi =>
  simp only [BlkR,hi] at hb
  exact .empty κ l hb none 0
theorem rU {i T : Nat} {κ : K} {l : List κ.T} {sh : Bool} {v : Value} (E : Env B ρ Im h) (hB : B i = some (.row T κ l sh)) (hv : AVR ρ h Im (.row i) v)
 (hI : ∀ b o,Im b o -> Im' b o) (hl : ∀ r o,ρ i = some r -> o < l.length * κ.sz -> Im' r.b o) : RepD h Im' (.seq κ l) v := by
 have hb := E.bl i _ hB
 cases hv with
 | row _ r hi =>
  simp only [BlkR,hi] at hb
  obtain ⟨h1,h2,h3,cs,T0,hh,hsz,hcs⟩ := hb
  rw [h1]
  refine .seq κ l r.b 0 r.cap (fun k j=>cs.getD (k * κ.sz + j) undef) omG h3 (fun k j hk hj=>?_) (fun k j hk hj=>?_) (fun k j hk hj=>?_)
  . refine hl r _ hi ?_
    have : (k + 1) * κ.sz <= l.length * κ.sz := Nat.mul_le_mul_right _ hk
    rw [Nat.add_mul] at this;omega
  . obtain ⟨c,hc1,_⟩ := hcs k j hk hj
    simp [hcell,hh,hc1]
  . obtain ⟨c,hc1,hc2⟩ := hcs k j hk hj
    simp only [Array.getD_eq_getD_getElem?,hc1,Option.getD_some]
    exact hc2.mono (fun _ _ _=>rfl) hI
 | rowN _ hi =>
  simp only [BlkR,hi] at hb
  exact .empty κ l hb none 0
theorem qfz (E : Env B ρ Im h) {z d : Dat} {v : AV} {u : Value} {c : Bool} (hd : fP B z v = some (d,c)) (hv : AVR ρ h Im v u) :
 RepD h (lB B ρ Im c) d u := by
 unfold fP at hd
 split at hd
 . cases hd;cases hv with|dat _ _ hd=>exact hd
 . split at hd
   . cases hd;obtain rfl := cH hv;exact .empty _ _ rfl none 0
   . cases hd
 . rename_i i
   split at hd
   . rename_i T κ l sh hB
     cases hd
     refine rU E hB hv (fun b o hI=>dO B ρ _ hI) (fun r o hr ho=>?_)
     cases sh with
     | true=>exact (E.imOwn i _ r o hB hr).2 ho
     | false=>exact .inr (.inl ⟨i,T,κ,l,false,r,hB,hr,rfl,ho⟩)
   . rename_i T κ l hB
     cases hd
     exact vT E hB hv fun r x o hr hx => .inr (.inr ⟨i,T,κ,l,r,hB,hr,hx⟩)
   . cases hd
 . cases hd
theorem qfy (E : Env B ρ Im h) : ∀ (zs : List Dat) (vs ds : List AV) (c : Bool) (cf : Nat -> Value),sI B zs vs = some (ds,c) -> (∀ j a,vs[j]? = some a -> AVR ρ h Im a (cf j)) ->
 ds.length = vs.length /\ ∀ j a,ds[j]? = some a -> AVR (fun _=>none) h (lB B ρ Im c) a (cf j)
 | [],[],ds,c,cf,hd,_=>by simp [sI] at hd;obtain ⟨rfl,rfl⟩ := hd;simp
 | z :: zs,v :: vs,ds,c,cf,hd,hv=>by
  simp only [sI] at hd
  cases h1 : fP B z v with
  | none=>simp [h1] at hd
  | some x =>
   obtain ⟨d,b⟩ := x
   simp only [h1] at hd
   cases h2 : sI B zs vs with
   | none=>simp [h2] at hd
   | some y =>
    obtain ⟨ds',c'⟩ := y
    simp [h2] at hd
    obtain ⟨rfl,rfl⟩ := hd
    have ih := qfy E zs vs ds' c' (fun j=>cf (j + 1)) h2 (fun j a ha=>hv (j + 1) a (by simpa using ha))
    refine ⟨by simp [ih.1],fun j a ha=>?_⟩
    cases j with
    | zero =>
     simp at ha;subst ha
     exact .dat _ _ ((qfz E h1 (hv 0 v rfl)).mono (fun _ _ _=>rfl) (fun b o hI=>qda hI))
    | succ j =>
     simp at ha
     exact (ih.2 j a ha).mono (fun _ _ _=>rfl) (fun b o hI=>qc9 hI)
 | [],_ :: _,_,_,_,hd,_=>by simp [sI] at hd
 | _ :: _,[],_,_,_,hd,_=>by simp [sI] at hd
theorem qol (E : Env B ρ Im h) {T : Nat} {v x : AV} {u : Value} {c : Bool} (hd : argP τ B T v = some (x,c)) (hv : AVR ρ h Im v u) :
 AVR (fun _=>none) h (lB B ρ Im c) x u := by
 unfold argP at hd
 split at hd
 . cases hd
 . rename_i i hi
   split at hd
   . split at hd
     . rename_i l
       split at hd
       . rename_i ds b hds
         cases hd
         cases hv with
         | agg _ cs cf hl hcf hr =>
          obtain ⟨h1,h2⟩ := qfy E _ _ _ _ cf hds hr
          exact .agg ds cs cf (by rw [hl,h1]) (fun j hj=>hcf j (by rw [<- h1];exact hj)) h2
       . cases hd
     . cases hd
   . split at hd
     . split at hd
       . rename_i d b hds
         cases hd
         exact .dat _ _ (qfz E hds hv)
       . cases hd
     . split at hd
       . cases hd
         cases hv
         exact .nilm
       . cases hd
     . cases hd
theorem wS (E : Env B ρ Im h) : ∀ (Ts : List Nat) (vs as : List AV) (c : Bool) (cf : Nat -> Value),pD τ B Ts vs = some (as,c) -> (∀ j a,vs[j]? = some a -> AVR ρ h Im a (cf j)) ->
 as.length = vs.length /\ ∀ j a,as[j]? = some a -> AVR (fun _=>none) h (lB B ρ Im c) a (cf j)
 | [],[],ds,c,cf,hd,_=>by simp [pD] at hd;obtain ⟨rfl,rfl⟩ := hd;simp
 | z :: zs,v :: vs,ds,c,cf,hd,hv=>by
  simp only [pD] at hd
  cases h1 : argP τ B z v with
  | none=>simp [h1] at hd
  | some x =>
   obtain ⟨d,b⟩ := x
   simp only [h1] at hd
   cases h2 : pD τ B zs vs with
   | none=>simp [h2] at hd
   | some y =>
    obtain ⟨ds',c'⟩ := y
    simp [h2] at hd
    obtain ⟨rfl,rfl⟩ := hd
    have ih := wS E zs vs ds' c' (fun j=>cf (j + 1)) h2 (fun j a ha=>hv (j + 1) a (by simpa using ha))
    refine ⟨by simp [ih.1],fun j a ha=>?_⟩
    cases j with
    | zero =>
     simp at ha;subst ha
     exact (qol E h1 (hv 0 v rfl)).mono (fun _ _ _=>rfl) (fun b o hI=>qda hI)
    | succ j =>
     simp at ha
     exact (ih.2 j a ha).mono (fun _ _ _=>rfl) (fun b o hI=>qc9 hI)
 | [],_ :: _,_,_,_,hd,_=>by simp [pD] at hd
 | _ :: _,[],_,_,_,hd,_=>by simp [pD] at hd
theorem RepD.flat {d : Dat} {v : Value} (hf : d.flat = true) (hr : RepD h Im d v) : RepD h' Im' d v := by
 cases hr with
 | int k n=>exact .int k n
 | bool b=>exact .bool b
 | str s=>exact .str s
 | errN=>simp [Dat.flat] at hf
 | errS=>simp [Dat.flat] at hf
 | nof=>simp [Dat.flat] at hf
 | clo=>simp [Dat.flat] at hf
 | empty=>simp [Dat.flat] at hf
 | seq=>simp [Dat.flat] at hf
theorem AVR.flatC {a : AV} {v : Value} (hf : a.flatC = true) (hr : AVR ρ h Im a v) : AVR ρ' h' Im' a v := by
 cases hr with
 | dat d v hd=>exact .dat d v (hd.flat hf)
 | nils=>exact .nils
 | nilm=>exact .nilm
 | nilp=>exact .nilp
 | cell v hv=>exact .cell v hv
 | any v=>exact .any v
 | _=>simp [AV.flatC] at hf
theorem AVR.flatM {a : AV} {v : Value} (hf : a.flatM = true) (hr : AVR ρ h Im a v) : AVR ρ' h' Im' a v := by
 cases hr with
 | dat d v hd=>exact .dat d v (hd.flat hf)
 | nils=>exact .nils
 | nilm=>exact .nilm
 | nilp=>exact .nilp
 | cell v hv=>exact .cell v hv
 | any v=>exact .any v
 | agg l cs cf hl hcf hr =>
  simp only [AV.flatM,List.all_eq_true] at hf
  exact .agg l cs cf hl hcf (fun j a ha=>(hr j a ha).flatC (hf a (List.mem_of_getElem? ha)))
 | _=>simp [AV.flatM,AV.flatC] at hf
theorem AVR.flat {a : AV} {v : Value} (hf : a.flat = true) (hr : AVR ρ h Im a v) : AVR ρ' h' Im' a v := by
 cases hr with
 | dat d v hd=>exact .dat d v (hd.flat hf)
 | nils=>exact .nils
 | nilm=>exact .nilm
 | nilp=>exact .nilp
 | cell v hv=>exact .cell v hv
 | any v=>exact .any v
 | agg l cs cf hl hcf hr=>exact (AVR.agg l cs cf hl hcf hr).flatM hf
 | tup l cs cf hl hcf hr =>
  simp only [AV.flat,List.all_eq_true] at hf
  exact .tup l cs cf hl hcf (fun j a ha=>(hr j a ha).flatM (hf a (List.mem_of_getElem? ha)))
 | _=>simp [AV.flat,AV.flatM,AV.flatC] at hf
theorem AVR.noidC {a : AV} {v : Value} (hf : a.noidC = true) (hr : AVR ρ h Im a v) : AVR ρ' h Im a v := by
 cases hr with
 | dat d v hd=>exact .dat d v hd
 | nils=>exact .nils
 | nilm=>exact .nilm
 | nilp=>exact .nilp
 | cell v hv=>exact .cell v hv
 | any v=>exact .any v
 | eptr κ x j b o cf him hc hr=>exact .eptr κ x j b o cf him hc hr
 | _=>simp [AV.noidC] at hf
theorem AVR.noidM {a : AV} {v : Value} (hf : a.noidM = true) (hr : AVR ρ h Im a v) : AVR ρ' h Im a v := by
 cases hr with
 | dat d v hd=>exact .dat d v hd
 | nils=>exact .nils
 | nilm=>exact .nilm
 | nilp=>exact .nilp
 | cell v hv=>exact .cell v hv
 | any v=>exact .any v
 | eptr κ x j b o cf him hc hr=>exact .eptr κ x j b o cf him hc hr
 | agg l cs cf hl hcf hr =>
  simp only [AV.noidM,List.all_eq_true] at hf
  exact .agg l cs cf hl hcf (fun j a ha=>(hr j a ha).noidC (hf a (List.mem_of_getElem? ha)))
 | _=>simp [AV.noidM,AV.noidC] at hf
theorem AVR.noid {a : AV} {v : Value} (hf : a.noid = true) (hr : AVR ρ h Im a v) : AVR ρ' h Im a v := by
 cases hr with
 | dat d v hd=>exact .dat d v hd
 | nils=>exact .nils
 | nilm=>exact .nilm
 | nilp=>exact .nilp
 | cell v hv=>exact .cell v hv
 | any v=>exact .any v
 | eptr κ x j b o cf him hc hr=>exact .eptr κ x j b o cf him hc hr
 | agg l cs cf hl hcf hr=>exact (AVR.agg l cs cf hl hcf hr).noidM hf
 | tup l cs cf hl hcf hr =>
  simp only [AV.noid,List.all_eq_true] at hf
  exact .tup l cs cf hl hcf (fun j a ha=>(hr j a ha).noidM (hf a (List.mem_of_getElem? ha)))
 | _=>simp [AV.noid,AV.noidM,AV.noidC] at hf
theorem qQ {o : Oper} {a : Act} {f : Operand} {args : Array Operand} {ts : Array Nat} {g : Nat} {fn : Func} (ho : o.op = .call { callee := .value f,args := args,argTypes := ts })
 (hf : a.eval f = .func (.func g) #[] #[]) (h1 : P.funcs[g]? = some fn) (h2 : (fn.name == "runtime.NumGoroutine") = false) (h3 : fn.body.isNone = false) :
 (execOp a.eval o).run P w = .ok (.enter g (args.map a.eval)) w := by
 unfold execOp
 simp only [ho,resolve,Deferred.ofValue,hf,invoke,callFunc,Sem.run_bind,Sem.run_pure,Result.andThen_ok,run_program,h1,h2,h3,Bool.false_eq_true,if_false,pure_bind,Array.append_empty,Array.empty_append]
theorem qj5 {o : Oper} {a : Act} {f : Operand} {args : Array Operand} {ts : Array Nat} {g : Nat} {cs : Array Value} {fn : Func} (ho : o.op = .call { callee := .value f,args := args,argTypes := ts })
 (hf : a.eval f = .func (.func g) #[] cs) (h1 : P.funcs[g]? = some fn) (h2 : (fn.name == "runtime.NumGoroutine") = false) (h3 : fn.body.isNone = false) :
 (execOp a.eval o).run P w = .ok (.enter g (args.map a.eval ++ cs)) w := by
 unfold execOp
 simp only [ho,resolve,Deferred.ofValue,hf,invoke,callFunc,Sem.run_bind,Sem.run_pure,Result.andThen_ok,run_program,h1,h2,h3,Bool.false_eq_true,if_false,pure_bind,Array.empty_append]
variable {w0 : World} {G : GP} {Im0 : Nat -> Nat -> Prop} {S : AState} {a : Act}
theorem Rel.after {Im2 : Nat -> Nat -> Prop} (hR : Rel w0 G Im0 S ρ Im a w) (hf : ∀ b,b < w.heap.size -> w'.heap[b]? = w.heap[b]?) (hg : w.heap.size <= w'.heap.size)
 (ho : w'.os = w.os) (htp : w'.tape = w.tape) (hout : w'.output = w.output) (hI : ∀ b o,Im b o -> Im2 b o)
 (hI2 : ∀ b o,Im2 b o -> Im b o \/ (w.heap.size <= b /\ b < w'.heap.size)) : Rel w0 G Im0 S ρ Im2 a w' := by
 have hc : ∀ b o,Im b o -> hcell w'.heap b o = hcell w.heap b o := fun b o h1=>dE (hf b (hR.env.imlt b o h1)) o
 refine ⟨hR.defers,hR.size,fun t=>(hR.tm t).mono hc hI,hR.env.grow hf hg hI hI2,
  ⟨hR.ext.own,fun b o h1=>hI b o (hR.ext.im0 b o h1),fun b o h1=>?_,fun b o h1=>?_,fun b hb hG=>?_,Nat.le_trans hR.ext.grow hg,ho.trans hR.ext.os,htp.trans hR.ext.tape,hout.trans hR.ext.output,hR.ext.pin⟩⟩
 . rcases hI2 b o h1 with h2|h2
   . exact hR.ext.imNew b o h2
   . exact .inr (.inr (Nat.le_trans hR.ext.grow h2.1))
 . rw [hc b o (hR.ext.im0 b o h1)];exact hR.ext.keep b o h1
 . have := hR.ext.grow
   rw [hf b omG];exact hR.ext.frame b hb hG
end
end Vg
namespace Vg
open Go Go.MapKept
section
variable {P : Program} {τ : Tys} {Im Im' : Nat -> Nat -> Prop} {ρ ρ' : Rho} {h h' : Array Obj} {w w' : World}
variable {w0 : World} {G : GP} {Im0 : Nat -> Nat -> Prop} {S : AState} {a : Act} {n : Nat} {tm : Nat -> AV} {blk : Nat -> Option Blk}
theorem nX {s : ByteArray} : ∀ (es : List MapEntry) (l : List (ByteArray × Int)) (i : Nat),es.map (fun e=>(e.key,e.val)) = (l.map fun x=>(Value.string x.1,Value.int .i64 x.2)) ->
 Instr.findNow .string (.string s) es i = some ((mfind s l i).map fun x=>(x.1,Value.int .i64 x.2))
 | [],[],i,_=>rfl
 | [],_ :: _,_,h=>by simp at h
 | _ :: _,[],_,h=>by simp at h
 | e :: es,(k,m) :: l,i,h=>by
  simp only [List.map_cons,List.cons.injEq,Prod.mk.injEq] at h
  obtain ⟨⟨h1,h2⟩,h3⟩ := h
  have ih := nX (s := s) es l (i + 1) h3
  obtain ⟨r,hr,hiff⟩ := sameNow_of_keys (d := .string) (a := .string s) (b := .string k) trivial trivial
  simp only [Instr.findNow,h1,hr,h2]
  by_cases hk : s = k
  . rw [hiff.2 (by rw [hk])]
    simp [mfind,hk]
  . have hb : r = false := by
     cases r with
     | false=>rfl
     | true=>exact absurd (by simpa using hiff.1 rfl) hk
    subst hb
    simp only [ih,mfind]
    rw [if_neg (fun e=>hk e.symm)]
theorem cW {s : ByteArray} : ∀ {l : List (ByteArray × Int)} {i j : Nat} {m : Int},mfind s l i = some (j,m) -> i <= j /\ j < i + l.length /\ (l[j - i]?).map (·.1) = some s
 | [],i,j,m,h=>by simp [mfind] at h
 | (k,x) :: l,i,j,m,h=>by
  simp only [mfind] at h
  split at h
  . rename_i e
    cases h
    exact ⟨Nat.le_refl _,by simp,by simp [e]⟩
  . obtain ⟨h1,h2,h3⟩ := cW h
    refine ⟨by omega,by simp;omega, ?_⟩
    rw [show j - i = (j - (i + 1)) + 1 from by omega,List.getElem?_cons_succ]
    exact h3
theorem qfx {h : Array Obj} {s : ByteArray} {v : Value} (hr : AVR ρ h Im (.dat (.str s)) v) : v = .string s := by
 cases hr with|dat _ _ hd=>cases hd;rfl
theorem run_map {T k e : Nat} (hd : P.underlying T = some (.map k e)) (w : World) : (underlying T).run P w = .ok (.map k e) w := by
 simp [underlying,hd]
theorem qk9 (hτ : d6 P τ) {T : Nat} {vx vi : AV} {ux ui : Value} {ok : Bool} {K : AV -> Prop} (h : fK (τ T) blk vx vi ok K) (E : Env blk ρ Im w.heap)
 (hx : AVR ρ w.heap Im vx ux) (hix : AVR ρ w.heap Im vi ui) : ∃ av u,K av /\ fK (τ T) blk vx vi ok (· = av) /\ (Instr.lookup T ux ui ok).run P w = .ok u w /\ AVR ρ w.heap Im av u := by
 unfold fK at h ⊢
 cases hT : τ T with
 | none=>simp [hT] at h
 | some i =>
  simp only [hT] at h ⊢
  obtain ⟨d,hdd,_,hdesc⟩ := (hτ T i hT).und
  cases hde : i.desc <;> simp only [hde] at h hdesc ⊢ <;> try exact h.elim
  obtain ⟨kt,et,rfl,hkt,hz⟩ := hdesc
  split at h
  case h_2=>exact h.elim
  rename_i s
  have hixv := qfx hix
  subst hixv
  have key : ∀ (l : List (ByteArray × Int)),xI ok l s K ->
   ((ux = .map none /\ l = []) \/ ∃ r es clock,ux = .map (some r) /\ w.heap[r]? = some (.map es clock) /\ MapR es l) ->
   ∃ av u,K av /\ xI ok l s (· = av) /\ (Instr.lookup T ux (.string s) ok).run P w = .ok u w /\ AVR ρ w.heap Im av u := by
   intro l h hl
   have run : (Instr.lookup T ux (.string s) ok).run P w = .ok (if ok then .tuple #[.int .i64 ((mget l s).getD 0),.bool (mget l s).isSome] else .int .i64 ((mget l s).getD 0)) w := by
    have hfin : ∀ es : List MapEntry,es.map (fun e=>(e.key,e.val)) = (l.map fun x=>(Value.string x.1,Value.int .i64 x.2)) ->
     (Instr.findKey kt (.string s) es).run P w = .ok ((mfind s l 0).map fun x=>(x.1,Value.int .i64 x.2)) w := fun es hes=>run_findKey hkt (nX es l 0 hes)
    rcases hl with ⟨rfl,rfl⟩|⟨r,es,clock,rfl,hb,hm⟩
    . have hf := hfin [] rfl
      simp only [mfind,Option.map_none] at hf
      simp only [Instr.lookup,Sem.run_bind,run_map hdd,Result.andThen_ok,Sem.run_pure,run_checkKey hkt (d := .string) (k := .string s) trivial,hf,hz]
      cases ok <;> simp [mget,mfind]
    . have hf := hfin es.toList hm
      simp only [Instr.lookup,Sem.run_bind,run_map hdd,Result.andThen_ok,run_getObj_map hb,Sem.run_pure,run_checkKey hkt (d := .string) (k := .string s) trivial,hf]
      unfold mget
      cases mfind s l 0 with
      | none=>simp only [Option.map_none,Sem.run_bind,hz,Result.andThen_ok,Sem.run_pure];cases ok <;> rfl
      | some y=>simp only [Option.map_some,Sem.run_bind,Result.andThen_ok,Sem.run_pure];cases ok <;> rfl
   unfold xI at h ⊢
   cases ok with
   | true =>
    refine ⟨_,_,h,rfl,run, ?_⟩
    refine .tup _ _ (fun j=>(#[.int .i64 ((mget l s).getD 0),.bool (mget l s).isSome] : Array Value).getD j undef) rfl (fun j hj=>?_) (fun j b hb=>?_)
    . have : j = 0 \/ j = 1 := by simp at hj;omega
      rcases this with rfl|rfl <;> rfl
    . match j,hb with
      | 0,hb=>cases hb;exact .dat _ _ (.int _ _)
      | 1,hb=>cases hb;exact .dat _ _ (.bool _)
   | false=>exact ⟨_,_,h,rfl,run,.dat _ _ (.int _ _)⟩
  split at h
  . rename_i id
    split at h
    case h_2=>exact h.elim
    rename_i l z hB
    have hbl := E.bl id _ hB
    cases hx with
    | mp _ r hi =>
     simp only [BlkR,hi] at hbl
     obtain ⟨_,es,clock,hh,hm,_⟩ := hbl
     exact key l h (.inr ⟨_,es,clock,rfl,hh,hm⟩)
    | mpN _ hi =>
     simp only [BlkR,hi] at hbl
     exact key l h (.inl ⟨rfl,hbl.2⟩)
  . cases hx
    exact key [] h (.inl ⟨rfl,rfl⟩)
  . exact h.elim
end
end Vg
namespace Vg
open Go
section
variable {P : Program} {τ : Tys} {Im Im' : Nat -> Nat -> Prop} {ρ ρ' ρ2 : Rho} {h h' : Array Obj} {w w' : World}
variable {w0 : World} {G : GP} {Im0 : Nat -> Nat -> Prop} {S : AState} {a : Act} {n : Nat} {tm : Nat -> AV} {blk : Nat -> Option Blk}
theorem sR {i : Nat} : ∀ {l : List Nat} {k j : Nat},uC i l k = some j -> k <= j /\ l[j - k]? = some i
 | [],k,j,h=>by simp [uC] at h
 | x :: l,k,j,h=>by
  simp only [uC] at h
  cases hb : Nat.beq i x with
  | true =>
   simp only [hb] at h
   cases h
   have := Nat.eq_of_beq_eq_true hb
   subst this
   exact ⟨Nat.le_refl _,by simp⟩
  | false =>
   simp only [hb] at h
   obtain ⟨h1,h2⟩ := sR h
   refine ⟨by omega, ?_⟩
   rw [show j - k = (j - (k + 1)) + 1 from by omega]
   exact h2
def x6 (ρ : Rho) (l : List Nat) : Rho := fun j=>match l[j]? with|some i=>ρ i|none=>none
theorem numR_of {l : List Nat} {i k : Nat} (hk : uC i l 0 = some k) : x6 ρ l k = ρ i := by
 have := (sR hk).2
 rw [Nat.sub_zero] at this
 simp [x6,this]
theorem AVR.numC {l : List Nat} {x : AV} {v : Value} (hr : AVR ρ h Im x v) : AVR (x6 ρ l) h Im (x.numC l) v := by
 cases hr with
 | any v=>exact .any v
 | cell v hv=>exact .cell v hv
 | dat d v hd=>exact .dat d v hd
 | nils=>exact .nils
 | eptr κ x j b o cf him hc hr=>exact .eptr κ x j b o cf him hc hr
 | row j r hi =>
  simp only [AV.numC];split
  . rename_i k hk;exact .row _ r (by rw [numR_of hk];exact hi)
  . exact .cell _ rfl
 | rowN j hi =>
  simp only [AV.numC];split
  . rename_i k hk;exact .rowN _ (by rw [numR_of hk];exact hi)
  . exact .cell _ rfl
 | nilm=>exact .nilm
 | nilp=>exact .nilp
 | mp j r hi =>
  simp only [AV.numC];split
  . rename_i k hk;exact .mp _ r (by rw [numR_of hk];exact hi)
  . exact .cell _ rfl
 | mpN j hi =>
  simp only [AV.numC];split
  . rename_i k hk;exact .mpN _ (by rw [numR_of hk];exact hi)
  . exact .cell _ rfl
 | ptr j off r hi =>
  simp only [AV.numC];split
  . rename_i k hk;exact .ptr _ off r (by rw [numR_of hk];exact hi)
  . exact .cell _ rfl
 | rptr j a b c r hi =>
  simp only [AV.numC];split
  . rename_i k hk;exact .rptr _ a b c r (by rw [numR_of hk];exact hi)
  . exact .cell _ rfl
 | agg=>exact .any _
 | tup=>exact .any _
 | fn=>exact .any _
theorem jL {f : AV -> AV} (hf : ∀ x v,AVR ρ h Im x v -> AVR ρ2 h Im (f x) v) {l : List AV} {cf : Nat -> Value} (hr : ∀ j a,l[j]? = some a -> AVR ρ h Im a (cf j)) :
 ∀ j a,(l.map f)[j]? = some a -> AVR ρ2 h Im a (cf j) := by
 intro j a ha
 rw [List.getElem?_map] at ha
 cases hl : l[j]? with
 | none=>simp [hl] at ha
 | some b=>simp [hl] at ha;subst ha;exact hf _ _ (hr j b hl)
theorem AVR.numM {l : List Nat} {x : AV} {v : Value} (hr : AVR ρ h Im x v) : AVR (x6 ρ l) h Im (x.numM l) v := by
 cases hr with
 | agg vs cs cf hl hcf hr=>exact .agg _ cs cf (by simpa using hl) (by simpa using hcf) (jL (fun _ _=>AVR.numC) hr)
 | fn f vs cs cf hl hcf hr=>exact .fn f _ cs cf (by simpa using hl) (by simpa using hcf) (jL (fun _ _=>AVR.numC) hr)
 | tup vs cs cf hl hcf hr=>exact .any _
 | any v=>exact AVR.numC (.any v)
 | cell v hv=>exact AVR.numC (.cell v hv)
 | dat d v hd=>exact AVR.numC (.dat d v hd)
 | nils=>exact AVR.numC .nils
 | eptr κ x j b o cf him hc hr=>exact AVR.numC (.eptr κ x j b o cf him hc hr)
 | row j r hi=>exact AVR.numC (.row j r hi)
 | rowN j hi=>exact AVR.numC (.rowN j hi)
 | nilm=>exact AVR.numC .nilm
 | nilp=>exact AVR.numC .nilp
 | mp j r hi=>exact AVR.numC (.mp j r hi)
 | mpN j hi=>exact AVR.numC (.mpN j hi)
 | ptr j off r hi=>exact AVR.numC (.ptr j off r hi)
 | rptr j k' o sz r hi=>exact AVR.numC (.rptr j k' o sz r hi)
theorem AVR.num {l : List Nat} {x : AV} {v : Value} (hr : AVR ρ h Im x v) : AVR (x6 ρ l) h Im (x.num l) v := by
 cases hr with
 | tup vs cs cf hl hcf hr=>exact .tup _ cs cf (by simpa using hl) (by simpa using hcf) (jL (fun _ _=>AVR.numM) hr)
 | agg vs cs cf hl hcf hr=>exact AVR.numM (.agg vs cs cf hl hcf hr)
 | fn f vs cs cf hl hcf hr=>exact AVR.numM (.fn f vs cs cf hl hcf hr)
 | any v=>exact AVR.numC (.any v)
 | cell v hv=>exact AVR.numC (.cell v hv)
 | dat d v hd=>exact AVR.numC (.dat d v hd)
 | nils=>exact AVR.numC .nils
 | eptr κ x j b o cf him hc hr=>exact AVR.numC (.eptr κ x j b o cf him hc hr)
 | row j r hi=>exact AVR.numC (.row j r hi)
 | rowN j hi=>exact AVR.numC (.rowN j hi)
 | nilm=>exact AVR.numC .nilm
 | nilp=>exact AVR.numC .nilp
 | mp j r hi=>exact AVR.numC (.mp j r hi)
 | mpN j hi=>exact AVR.numC (.mpN j hi)
 | ptr j off r hi=>exact AVR.numC (.ptr j off r hi)
 | rptr j k' o sz r hi=>exact AVR.numC (.rptr j k' o sz r hi)
theorem BlkR.num {l : List Nat} {i k : Nat} {b : Blk} (hk : l[k]? = some i) (hB : BlkR ρ h Im i b) : BlkR (x6 ρ l) h Im k (b.num l) := by
 have e : x6 ρ l k = ρ i := by simp [x6,hk]
 cases b with
 | box cells =>
  obtain ⟨r,cs,T,hr,hh,hsz,hcs⟩ := hB
  refine ⟨r,cs,T,e.trans hr,hh,hsz.map (fun a=>by cases a <;> simp [AV.numC] <;> split <;> simp) (fun a=>by cases a <;> simp [AV.numC] <;> split <;> simp),fun j x hx=>?_⟩
  rw [List.getElem?_map] at hx
  cases hl : cells[j]? with
  | none=>simp [hl] at hx
  | some y =>
   simp [hl] at hx;subst hx
   obtain ⟨c,h1,h2⟩ := hcs j y hl
   exact ⟨c,h1,h2.numC⟩
 | row T κ l' sh =>
  simp only [BlkR,Blk.num] at hB ⊢
  rw [e];exact hB
 | tree T κ l' =>
  simp only [BlkR,Blk.num] at hB ⊢
  rw [e];exact hB
 | mp l' z =>
  simp only [BlkR,Blk.num] at hB ⊢
  rw [e];exact hB
 | it l' n' z =>
  simp only [BlkR,Blk.num] at hB ⊢
  rw [e];exact hB
theorem oM {l : List Nat} : ∀ {r : List Nat} {bs : List Blk},xB blk l r = some bs -> bs.length = r.length /\ ∀ (k i : Nat),r[k]? = some i -> ∃ b,blk i = some b /\ bs[k]? = some (b.num l)
 | [],bs,h=>by simp [xB] at h;subst h;simp
 | i :: r,bs,h=>by
  simp only [xB] at h
  cases hb : blk i with
  | none=>simp [hb] at h
  | some b =>
   simp only [hb] at h
   cases hr : xB blk l r with
   | none=>simp [hr] at h
   | some bs' =>
    simp [hr] at h;subst h
    obtain ⟨h1,h2⟩ := oM hr
    refine ⟨by simp [h1],fun k j hk=>?_⟩
    cases k with
    | zero=>simp at hk;subst hk;exact ⟨b,hb,rfl⟩
    | succ k=>simp at hk;simpa using h2 k j hk
theorem qcy {i : Nat} : ∀ {l : List Nat},gL i l = false -> i ∉ l
 | [],_=>by simp
 | j :: l,h=>by
  simp only [gL] at h
  cases hb : Nat.beq i j with
  | true=>simp [hb] at h
  | false =>
   simp only [hb] at h
   have h1 := qcy h
   have h2 : i ≠ j := fun e=>by subst e;simp at hb
   simp [h1,h2]
theorem mJ : ∀ {l : List Nat},vA l = true -> ∀ (j k i : Nat),l[j]? = some i -> l[k]? = some i -> j = k
 | [],_,j,k,i,h,_=>by simp at h
 | x :: l,hn,j,k,i,h1,h2=>by
  simp only [vA] at hn
  cases hm : gL x l with
  | true=>simp [hm] at hn
  | false =>
   simp only [hm] at hn
   have hx := qcy hm
   cases j with
   | zero =>
    cases k with
    | zero=>rfl
    | succ k=>simp at h1 h2;subst h1;exact absurd (List.mem_of_getElem? h2) hx
   | succ j =>
    cases k with
    | zero=>simp at h1 h2;subst h2;exact absurd (List.mem_of_getElem? h1) hx
    | succ k=>simp at h1 h2;rw [mJ hn j k i h1 h2]
theorem bR {L : List Nat} {bs : List Blk} (hbs : xB blk L L = some bs) (hnd : vA L = true) (E : Env blk ρ Im h) : Env (fun j=>bs[j]?) (x6 ρ L) Im h := by
 obtain ⟨hbl,hbspec⟩ := oM hbs
 have hnd' := mJ hnd
 have get : ∀ {j b},bs[j]? = some b -> ∃ i b',L[j]? = some i /\ blk i = some b' /\ b = b'.num L := fun {j b} hj=>by
  have hjl : j < L.length := by have := (List.getElem?_eq_some_iff.1 hj).1;omega
  obtain ⟨b',h1,h2⟩ := hbspec j _ (List.getElem?_eq_getElem hjl)
  rw [hj] at h2;cases h2
  exact ⟨_,b',List.getElem?_eq_getElem hjl,h1,rfl⟩
 have nR : ∀ {j i},L[j]? = some i -> x6 ρ L j = ρ i := fun {j i} hj=>by simp [x6,hj]
 have get' : ∀ {j r},bs[j]? ≠ none -> x6 ρ L j = some r -> ∃ i,L[j]? = some i /\ blk i ≠ none /\ ρ i = some r := fun {j r} hj hr=>by
  obtain ⟨b,hb⟩ := Option.ne_none_iff_exists'.1 hj
  obtain ⟨i,b',h1,h2,_⟩ := get hb
  exact ⟨i,h1,by simp [h2],by rw [<- nR h1];exact hr⟩
 refine ⟨fun j b hj=>?_,fun j k r s x hj hk hr hs hx hy=>?_,fun j r hj hr=>?_,fun j r x hj hr hx=>?_,fun j r x o hj hr hx=>?_,E.imlt,fun j b r o hj hr=>?_⟩
 . obtain ⟨i,b',h1,h2,rfl⟩ := get hj
   exact (E.bl i b' h2).num h1
 . obtain ⟨i,h1,h2,h3⟩ := get' hj hr
   obtain ⟨i',h1',h2',h3'⟩ := get' hk hs
   have := E.inj i i' r s x h2 h2' h3 h3' hx hy
   subst this
   exact hnd' j k i h1 h1'
 . obtain ⟨i,h1,h2,h3⟩ := get' hj hr
   exact E.fpNe i r h2 h3
 . obtain ⟨i,h1,h2,h3⟩ := get' hj hr
   exact E.fpLt i r x h2 h3 hx
 . obtain ⟨i,h1,h2,h3⟩ := get' hj hr
   exact E.fpIm i r x o h2 h3 hx
 . obtain ⟨i,b',h1,h2,rfl⟩ := get hj
   rw [nR h1] at hr
   have : (b'.num L).pinned = b'.pinned := by cases b' <;> rfl
   rw [this]
   exact E.imOwn i b' r o h2 hr
theorem wO (l : List Blk) : ∀ (K : List Blk -> Prop),forceBs l K = K l := by
 induction l with
 | nil=>intro K;rfl
 | cons b l ih=>intro K;cases b <;> simp [forceBs,forceL_eq,ih]
theorem tO (l : List Nat) : ∀ (K : List Nat -> Prop),forceNs l K = K l := by
 induction l with
 | nil=>intro K;rfl
 | cons b l ih=>intro K;simp [forceNs,ih]
theorem uO (blk : Nat -> Option Blk) (l0 : List Nat) (K : List Nat -> Prop) : zL blk l0 K = K (nextIds blk (nextIds blk l0)) := by
 unfold zL;rw [tO,tO,tO]
theorem sN : ∀ {l : List Blk},dL l = true -> ∀ (j : Nat) (b : Blk),l[j]? = some b -> ∀ cs,b ≠ .box cs
 | [],_,j,b,h,_=>by simp at h
 | .box _ :: _,hn,_,_,_,_=>by cases hn
 | .row T κ x sh :: l,hn,j,b,h,cs=>by
  cases j with
  | zero=>simp at h;subst h;intro e;cases e
  | succ j=>simp at h;exact sN (l := l) hn j b h cs
 | .tree T κ x :: l,hn,j,b,h,cs=>by
  cases j with
  | zero=>simp at h;subst h;intro e;cases e
  | succ j=>simp at h;exact sN (l := l) hn j b h cs
 | .mp x z :: l,hn,j,b,h,cs=>by
  cases j with
  | zero=>simp at h;subst h;intro e;cases e
  | succ j=>simp at h;exact sN (l := l) hn j b h cs
 | .it x n' z :: l,hn,j,b,h,cs=>by
  cases j with
  | zero=>simp at h;subst h;intro e;cases e
  | succ j=>simp at h;exact sN (l := l) hn j b h cs
theorem BlkR.place {i j : Nat} {b : Blk} (e : ρ i = ρ' j) (hb : ∀ cs,b ≠ .box cs) (hB : BlkR ρ' h Im j b) : BlkR ρ h Im i b := by
 cases b with
 | box cs=>exact absurd rfl (hb cs)
 | row T κ l sh=>simp only [BlkR] at hB ⊢;rw [e];exact hB
 | tree T κ l=>simp only [BlkR] at hB ⊢;rw [e];exact hB
 | mp l z=>simp only [BlkR] at hB ⊢;rw [e];exact hB
 | it l n z=>simp only [BlkR] at hB ⊢;rw [e];exact hB
theorem Blk.num_noBox {l : List Nat} {b : Blk} (hb : ∀ cs,b.num l ≠ .box cs) : b.num l = b := by
 cases b with
 | box cs=>exact absurd rfl (hb _)
 | row=>rfl
 | tree=>rfl
 | mp=>rfl
 | it=>rfl
theorem Rel.afterR {L : List Nat} {bs : List Blk} {Im2 : Nat -> Nat -> Prop} (hR : Rel w0 G Im0 S ρ Im a w) (hbs : xB S.blk L L = some bs) (hnd : vA L = true) (hnb : dL bs = true)
 (E' : Env (fun j=>bs[j]?) ρ' Im2 w'.heap) (hk : ∀ j,j < bs.length -> ρ' j = x6 ρ L j) (X : Ext w (.of bs.length (x6 ρ L)) Im (fun j=>bs[j]?) ρ' Im2 w') : Rel w0 G Im0 S ρ Im2 a w' := by
 obtain ⟨hbl,hbspec⟩ := oM hbs
 have hnd' := mJ hnd
 have nR : ∀ {j i : Nat},L[j]? = some i -> x6 ρ L j = ρ i := fun {j i} hj=>by simp [x6,hj]
 have inL : ∀ i b,S.blk i = some b -> i ∈ L -> ∃ j,L[j]? = some i /\ j < bs.length /\ bs[j]? = some b /\ (∀ cs,b ≠ .box cs) /\ ρ' j = ρ i := fun i b hb hi=>by
  obtain ⟨j,hj⟩ := List.mem_iff_getElem?.1 hi
  have hjl : j < bs.length := by rw [hbl];exact (List.getElem?_eq_some_iff.1 hj).1
  obtain ⟨b',h1,h2⟩ := hbspec j i hj
  rw [hb] at h1;cases h1
  have h3 := sN hnb j _ h2
  rw [Blk.num_noBox h3] at h2 h3
  exact ⟨j,hj,hjl,h2,h3,(hk j hjl).trans (nR hj)⟩
 have hGc : ∀ x,(GP.of bs.length (x6 ρ L)) x -> ∃ (i : Nat) (r : RI),i ∈ L /\ S.blk i ≠ none /\ ρ i = some r /\ r.has x := by
  rintro x ⟨j,r,hj,hr,hx⟩
  have hjl : j < L.length := by omega
  obtain ⟨b',e1,_⟩ := hbspec j _ (List.getElem?_eq_getElem hjl)
  have : x6 ρ L j = ρ L[j] := by simp [x6,List.getElem?_eq_getElem hjl]
  exact ⟨L[j],r,List.getElem_mem hjl,by simp [e1],this.symm.trans hr,hx⟩
 have hGo : ∀ b,(GP.of bs.length (x6 ρ L)) b -> G b \/ w0.heap.size <= b := fun b hb=>by
  obtain ⟨i,r,_,hi,hr,hx⟩ := hGc b hb
  exact hR.ext.own i r b hi hr hx
 have hinj : ∀ i r x,i ∉ L -> S.blk i ≠ none -> ρ i = some r -> r.has x -> ¬ (GP.of bs.length (x6 ρ L)) x := fun i r x hi hb hr hx hG=>by
  obtain ⟨i',r',hi',hb',hr',e⟩ := hGc _ hG
  have := hR.env.inj i i' r r' x hb hb' hr hr' hx e
  subst this
  exact hi hi'
 have hown : ∀ i r x,S.blk i ≠ none -> ρ i = some r -> r.has x -> x < w.heap.size := fun i r x hi hr hx=>hR.env.lt hi hr hx
 refine ⟨hR.defers,hR.size,fun t=>(hR.tm t).mono X.keep X.im0,⟨fun i b hB=>?_,hR.env.inj,hR.env.fpNe,fun i r x hi hr hx=>Nat.lt_of_lt_of_le (hR.env.fpLt i r x hi hr hx) X.grow,fun i r x o hi hr hx h1=>?_,E'.imlt,fun i blk r o hB hr=>?_⟩,
  ⟨hR.ext.own,fun b o h1=>X.im0 b o (hR.ext.im0 b o h1),fun b o h1=>?_,fun b o h1=>?_,fun b hb hG=>?_,Nat.le_trans hR.ext.grow X.grow,X.os.trans hR.ext.os,X.tape.trans hR.ext.tape,X.output.trans hR.ext.output,hR.ext.pin⟩⟩
 . by_cases hi : i ∈ L
   . obtain ⟨j,h1,h2,h3,h4,h5⟩ := inL i b hB hi
     exact (E'.bl j b h3).place h5.symm h4
   . exact (hR.env.bl i b hB).mono (fun r x hr hx=>X.frame _ (hown i r x (by simp [hB]) hr hx) (hinj i r x hi (by simp [hB]) hr hx)) X.keep X.im0
 . by_cases hm : i ∈ L
   . obtain ⟨b,hb⟩ := Option.ne_none_iff_exists'.1 hi
     obtain ⟨j,h2,h3,h4,h5,h6⟩ := inL i b hb hm
     exact E'.fpIm j r x o (by simp [h4]) (h6.trans hr) hx h1
   . rcases X.imNew _ _ h1 with h2|h2|h2
     . exact hR.env.fpIm i r x o hi hr hx h2
     . exact hinj i r x hm hi hr (.inr hx) h2
     . have := hR.env.fpLt i r x hi hr hx;omega
 . by_cases hm : i ∈ L
   . obtain ⟨j,h2,h3,h4,h5,h6⟩ := inL i blk hB hm
     exact E'.imOwn j blk r o h4 (h6.trans hr)
   . have h1 := hown i r r.b (by simp [hB]) hr (.inl rfl)
     have h2 := hinj i r r.b hm (by simp [hB]) hr (.inl rfl)
     rw [<- hR.env.imOwn i blk r o hB hr]
     refine ⟨fun h3=>(X.imNew _ _ h3).resolve_right (fun h4=>?_),X.im0 _ _⟩
     rcases h4 with h4|h4
     . exact h2 h4
     . omega
 . rcases X.imNew b o h1 with h2|h2|h2
   . exact hR.ext.imNew b o h2
   . exact .inr (hGo b h2)
   . exact .inr (.inr (Nat.le_trans hR.ext.grow h2))
 . exact (X.keep b o (hR.ext.im0 b o h1)).trans (hR.ext.keep b o h1)
 . have := hR.ext.grow
   refine (X.frame b omG (fun h2=>?_)).trans (hR.ext.frame b hb hG)
   rcases hGo b h2 with h3|h3
   . exact hG h3
   . omega
end
section
variable {P : Program} {τ : Tys} {Im Im' : Nat -> Nat -> Prop} {ρ ρ' : Rho} {h h' : Array Obj} {w w' : World}
variable {w0 : World} {G : GP} {Im0 : Nat -> Nat -> Prop} {S : AState} {a : Act}
def After (P : Program) (w0 : World) (G : GP) (Im0 : Nat -> Nat -> Prop) (S : AState) (ρ : Rho) (a : Act) (w : World) (o : Oper) (av : AV) : Prop :=
 ∀ (next : Act -> World -> Prop) (Q : Exit -> Act -> World -> Prop),
  (∀ v w' Im',Rel w0 G Im0 S ρ Im' a w' -> AVR ρ w'.heap Im' av v -> next (a.put o.dst v) w') -> o.wp P a w next Q
theorem After.of_run (hR : Rel w0 G Im0 S ρ Im a w) {o : Oper} {av : AV} {v : Value} (hr : (execOp a.eval o).run P w = .ok (.value v) w) (hv : AVR ρ w.heap Im av v) :
 After P w0 G Im0 S ρ a w o av := fun next Q hn=>by
 unfold Oper.wp;rw [hr];exact hn v w Im hR hv
theorem qki [hT : Nonempty (TabH w0.heap Im0)] (hR : Rel w0 G Im0 S ρ Im a w) {o : Oper} {f : Operand} {args : Array Operand} {ts : Array Nat} {g : Nat} {K : AV -> Prop}
 (ho : o.op = .call { callee := .value f,args := args,argTypes := ts }) (hf : ev S f = .fn g [])
 (h : jJ P S.blk g (args.toList.map (ev S)) K) :
 ∃ av,K av /\ jJ P S.blk g (args.toList.map (ev S)) (· = av) /\ After P w0 G Im0 S ρ a w o av := by
 unfold jJ at h ⊢
 simp only [forceLM_eq,uO] at h ⊢
 generalize nextIds S.blk (nextIds S.blk (addIds (AV.idsL (args.toList.map (ev S))) [])) = L at h ⊢
 cases hnd : vA L with
 | false=>simp [hnd] at h
 | true =>
 simp only [hnd] at h ⊢
 cases hbs : xB S.blk L L with
 | none=>simp [hbs] at h
 | some bs =>
 simp only [hbs] at h ⊢
 cases hnb : dL bs with
 | false=>simp [hnb] at h
 | true =>
 simp only [hnb,wO] at h ⊢
 obtain ⟨X,hX,hfl,hK⟩ := h
 refine ⟨X,hK,⟨X,hX,hfl,rfl⟩,fun next Q hn=>?_⟩
 obtain ⟨⟨fn,h1,h2,h3⟩,hcall⟩ := hX
 have hfv : a.eval f = .func (.func g) #[] #[] := by
  have := j7 hR f
  rw [hf] at this
  generalize a.eval f = u at this ⊢
  cases this with
  | fn _ _ cs cf hl _ _ =>
   have : cs = #[] := by apply Array.eq_empty_of_size_eq_zero;simpa using hl
   rw [this]
 unfold Oper.wp
 rw [qQ ho hfv h1 h2 h3]
 simp only [Oper.upon]
 refine (hcall w Im (x6 ρ L) (args.map a.eval) (by simp) (fun j x hx=>?_) (bR hbs hnd hR.env) hR.tab).mono ?_
 . rw [List.getElem?_map,List.getElem?_map] at hx
   cases hj : args.toList[j]? with
   | none=>simp [hj] at hx
   | some y =>
    simp [hj] at hx;subst hx
    have : args[j]? = some y := by simpa using hj
    simp [this]
    exact (j7 hR y).numM
 rintro e w' ⟨v,res,B',ρ',Im',rfl,⟨rfl,rfl⟩,hv,E',hkeep,X'⟩
 simp only
 exact hn v w' Im' (hR.afterR hbs hnd hnb E' (fun j hj=>(hkeep j hj).2) X') (hv.flat hfl)
theorem qb3 [hT : Nonempty (TabH w0.heap Im0)] (hR : Rel w0 G Im0 S ρ Im a w) {o : Oper} {f : Operand} {args : Array Operand} {ts : Array Nat} {g : Nat} {K : AV -> Prop}
 (ho : o.op = .call { callee := .value f,args := args,argTypes := ts }) (hf : ev S f = .fn g [])
 (h : fF P τ S.blk g ts.toList (args.toList.map (ev S)) K) :
 ∃ av,K av /\ fF P τ S.blk g ts.toList (args.toList.map (ev S)) (· = av) /\ After P w0 G Im0 S ρ a w o av := by
 unfold fF at h ⊢
 cases hA : pD τ S.blk ts.toList (args.toList.map (ev S)) with
 | none=>simp only [hA] at h ⊢;exact qki hR ho hf h
 | some x =>
  obtain ⟨as,brw⟩ := x
  simp only [hA] at h ⊢
  obtain ⟨X,hX,hb,hK⟩ := h
  refine ⟨X,hK,⟨X,hX,hb,rfl⟩,fun next Q hn=>?_⟩
  obtain ⟨⟨fn,h1,h2,h3⟩,hcall⟩ := hX
  have hfv : a.eval f = .func (.func g) #[] #[] := by
   have := j7 hR f
   rw [hf] at this
   generalize a.eval f = u at this ⊢
   cases this with
   | fn _ _ cs cf hl _ _ =>
    have : cs = #[] := by apply Array.eq_empty_of_size_eq_zero;simpa using hl
    rw [this]
  unfold Oper.wp
  rw [qQ ho hfv h1 h2 h3]
  simp only [Oper.upon]
  obtain ⟨hlen,hargs⟩ := wS hR.env ts.toList _ as brw (fun j=>(args.map a.eval).getD j undef) hA (fun j x hx=>by
   rw [List.getElem?_map] at hx
   cases hj : args.toList[j]? with
   | none=>simp [hj] at hx
   | some y =>
    simp [hj] at hx;subst hx
    have : args[j]? = some y := by simpa using hj
    simp [this]
    exact j7 hR y)
  refine (hcall w (lB S.blk ρ Im brw) (args.map a.eval) (by simp [hlen]) hargs ⟨fun b o hI=>qdb hR.env brw hI,hR.tab.ext (fun b o hI=>dO _ _ brw hI) (fun _ _ _=>rfl)⟩).mono ?_
  rintro e w' ⟨v,res,B',ρ',Im',rfl,⟨rfl,rfl⟩,hv,E',X'⟩
  simp only
  have hnew : ∀ b o,Im' b o -> gO (lB S.blk ρ Im brw) res.flat b o \/ (w.heap.size <= b /\ b < w'.heap.size) := fun b o hI=>by
   rcases X'.imNew b o hI with h4|h4|h4
   . exact .inl h4
   . exact h4.elim
   . exact .inr ⟨h4,E'.imlt b o hI⟩
  have hfr : ∀ b,b < w.heap.size -> w'.heap[b]? = w.heap[b]? := fun b hb=>X'.frame b hb (fun h=>h)
  cases hfl : res.flat with
  | true =>
   exact hn v w' Im (hR.after hfr X'.grow X'.os X'.tape X'.output (fun _ _ x=>x) (fun _ _ x => .inl x)) (hv.flat hfl)
  | false =>
   have hbf : brw = false := by
    cases brw with
    | false=>rfl
    | true=>simp [hfl] at hb
   subst hbf
   simp only at hb
   simp only [hfl,gO,lB] at hnew
   have him0 := X'.im0
   simp only [hfl,gO,lB] at him0
   have hv2 : AVR ρ w'.heap Im' res v := hv.noid (by simpa using hb)
   exact hn v w' Im' (hR.after hfr X'.grow X'.os X'.tape X'.output him0 hnew) hv2
theorem getD_lt {s : ByteArray} {n : Nat} (hn : n < s.size) : s[n]? = some (s.data.toList.getD n 0) := by
 have : n < s.data.toList.length := by simpa using hn
 rw [List.getD_eq_getElem?_getD,List.getElem?_eq_getElem this]
 simp [hn];rfl
def Ran (P : Program) (ρ : Rho) (Im : Nat -> Nat -> Prop) (a : Act) (w : World) (o : Oper) (av : AV) : Prop :=
 ∃ v,(execOp a.eval o).run P w = .ok (.value v) w /\ AVR ρ w.heap Im av v
theorem Ran.of {o : Oper} {av : AV} {v : Value} (hr : (execOp a.eval o).run P w = .ok (.value v) w) (hv : AVR ρ w.heap Im av v) : Ran P ρ Im a w o av := ⟨v,hr,hv⟩
theorem qbz (hτ : d6 P τ) (hR : Rel w0 G Im0 S ρ Im a w) {o : Oper} {K : AV -> Prop} (hnc : kG o.op = true) (h : pval P τ (ev S) S.blk o.op K) :
 ∃ av,K av /\ pval P τ (ev S) S.blk o.op (· = av) /\ Ran P ρ Im a w o av := by
 have hE := j7 hR
 cases hop : o.op <;> simp only [hop,pval] at h ⊢ <;> try exact h.elim
 case move x=>exact ⟨_,h,rfl,Ran.of (by simp [execOp,hop]) (hE x)⟩
 case assign x=>exact ⟨_,h,rfl,Ran.of (by simp [execOp,hop]) (hE x)⟩
 case pick c x y =>
  have hc := hE c
  split at h
  . rename_i e
    rw [e] at hc
    have := yJ hc
    exact ⟨_,h,rfl,Ran.of (by simp [execOp,hop,this,asBool]) (hE x)⟩
  . rename_i e
    rw [e] at hc
    have := yJ hc
    exact ⟨_,h,rfl,Ran.of (by simp [execOp,hop,this,asBool]) (hE y)⟩
  . exact h.elim
 case load T p =>
  cases hT : τ T with
  | none=>simp [hT] at h
  | some i =>
   simp only [hT] at h ⊢
   obtain ⟨av,h1,h2,u,h3,h4⟩ := qhj (hτ T i hT) hR.env (hE p) h
   exact ⟨av,h1,h2,Ran.of (by simp [execOp,hop,h3]) h4⟩
 case nilCheck x =>
  have hx := hE x
  split at h <;> rename_i e <;> first|exact h.elim|skip
  all_goals
   rw [e] at hx
   refine ⟨_,h,rfl, ?_⟩
   generalize hv : a.eval x = v at hx
   cases hx
   exact Ran.of (by simp [execOp,hop,hv];rfl) (by first|exact .ptr _ _ _ (by assumption)|exact .eptr _ _ _ _ _ _ (by assumption) (by assumption) (by assumption)|exact .rptr _ _ _ _ _ (by assumption))
 case binOp op T x y U =>
  obtain ⟨av,h1,h2,u,h3,h4⟩ := qo2 hτ (x := x) (y := y) (hE x) (hE y) (fun c e=>by rw [e];rfl) h
  exact ⟨av,h1,h2,Ran.of (by simp only [execOp,hop,Sem.run_bind] at h3 ⊢;rw [h3];rfl) h4⟩
 case unOp op T x =>
  obtain ⟨av,h1,h2,u,h3,h4⟩ := qof (P := P) (hE x) h
  exact ⟨av,h1,h2,Ran.of (by simp [execOp,hop,h3]) h4⟩
 case convert s d x =>
  obtain ⟨av,h1,h2,u,h3,h4⟩ := qo0 hτ hR.env (hE x) h
  exact ⟨av,h1,h2,Ran.of (by simp [execOp,hop,h3]) h4⟩
 case fieldAddr T x f =>
  cases hT : τ T with
  | none=>simp [hT] at h
  | some i =>
   simp only [hT] at h ⊢
   cases hd : i.desc <;> simp only [hd] at h ⊢ <;> try exact h.elim
   rename_i l
   cases hf : l[f]? with
   | none=>simp [hf] at h
   | some ot =>
    obtain ⟨off,E⟩ := ot
    simp only [hf] at h ⊢
    have hx := hE x
    split at h <;> rename_i e <;> first|exact h.elim|skip
    all_goals
     rw [e] at hx
     refine ⟨_,h,rfl, ?_⟩
     generalize hv : a.eval x = v at hx
     cases hx
     refine Ran.of (v := .pointer (some _)) (by simp only [execOp,hop,hv,Sem.run_bind];rw [qj3 (hτ T i hT) hd hf];rfl) ?_
     first|exact .ptr _ _ _ (by assumption)|(rw [Nat.add_assoc];exact .eptr _ _ _ _ _ _ (by assumption) (by assumption) (by assumption))|(rw [Nat.add_assoc];exact .rptr _ _ _ _ _ (by assumption))
 case indexAddr T x ix =>
  cases hT : τ T with
  | none=>simp [hT] at h
  | some i =>
   simp only [hT] at h ⊢
   cases hd : i.desc <;> simp only [hd] at h ⊢ <;> try exact h.elim
   rename_i E κ'
   cases hTE : τ E with
   | none=>simp [hTE] at h
   | some ie =>
    simp only [hTE] at h ⊢
    have hx := hE x
    have hix := hE ix
    split at h <;> rename_i e <;> first|exact h.elim|skip
    rename_i k n
    rw [e] at hix
    have hiv := i9 hix
    split at h <;> rename_i e2 <;> first|exact h.elim|skip
    . rename_i κ l
      rw [e2] at hx
      cases hs : Nat.beq ie.size κ.sz with
      | false=>simp [hs] at h
      | true =>
       simp only [hs] at h ⊢
       obtain ⟨r,h3,h4⟩ := qln (k := k) hτ hT hd hTE (Nat.eq_of_beq_eq_true hs) hx h.1.1 h.1.2
       exact ⟨_,h.2,⟨h.1,rfl⟩,Ran.of (by simp [execOp,hop,hiv,h3]) h4⟩
    . rename_i id
      rw [e2] at hx
      cases hB : S.blk id with
      | none=>simp [hB] at h
      | some blk =>
       simp only [hB] at h ⊢
       cases blk with
       | box=>exact h.elim
       | mp=>exact h.elim
       | it=>exact h.elim
       | row T' κ l sh =>
        simp only at h ⊢
        cases hs : Nat.beq ie.size κ.sz with
        | false=>simp [hs] at h
        | true =>
         simp only [hs] at h ⊢
         obtain ⟨r,h3,h4⟩ := qlm (k := k) hτ hR.env hT hd hTE (Nat.eq_of_beq_eq_true hs) hB hx h.1.1 h.1.2
         exact ⟨_,h.2,⟨h.1,rfl⟩,Ran.of (by simp [execOp,hop,hiv,h3]) h4⟩
       | tree T' κ l =>
        simp only at h ⊢
        cases hs : Nat.beq ie.size κ.sz with
        | false=>simp [hs] at h
        | true =>
         simp only [hs] at h ⊢
         obtain ⟨r,h3,h4⟩ := qll (k := k) hτ hR.env hT hd hTE (Nat.eq_of_beq_eq_true hs) hB hx h.1.1 h.1.2
         exact ⟨_,h.2,⟨h.1,rfl⟩,Ran.of (by simp [execOp,hop,hiv,h3]) h4⟩
 case index T x ix =>
  cases hT : τ T with
  | none=>simp [hT] at h
  | some i =>
   simp only [hT] at h ⊢
   obtain ⟨d,hdd,_,hdesc⟩ := (hτ T i hT).und
   cases hd : i.desc <;> simp only [hd] at h hdesc ⊢ <;> try exact h.elim
   subst hdesc
   have hx := hE x
   have hix := hE ix
   split at h <;> rename_i e <;> first|exact h.elim|skip
   rename_i k n
   rw [e] at hix
   have hiv := i9 hix
   split at h <;> rename_i e2 <;> first|exact h.elim|skip
   rename_i s
   rw [e2] at hx
   have hsv := dP hx
   have hn : n.toNat < s.size := by omega
   refine ⟨_,h.2,⟨h.1,rfl⟩,Ran.of (v := .int .u8 (s.data.toList.getD n.toNat 0).toNat) ?_ (mA _ _ _)⟩
   simp only [execOp,hop,hiv,hsv,Instr.index,asIntOf,Sem.run_bind,Sem.run_pure,Result.andThen_ok,k8 hdd,h.1.1,if_true,getD_lt hn]
 case lookup T x ix ok =>
  obtain ⟨av,u,h1,h2,h3,h4⟩ := qk9 hτ h hR.env (hE x) (hE ix)
  exact ⟨av,h1,h2,Ran.of (by simp only [execOp,hop,Sem.run_bind,h3,Result.andThen_ok,Sem.run_pure]) h4⟩
 case extract t ix =>
  have ht := hE t
  split at h <;> rename_i e <;> first|exact h.elim|skip
  rename_i l
  rw [e] at ht
  cases hl : l[ix]? with
  | none=>simp [hl] at h
  | some v =>
   simp only [hl] at h ⊢
   refine ⟨_,h,rfl, ?_⟩
   generalize hv : a.eval t = u at ht
   cases ht with
   | tup _ cs cf hsz hcf hr =>
    have := hcf ix (List.getElem?_eq_some_iff.1 hl).1
    exact Ran.of (by simp [execOp,hop,hv,Instr.extract,this]) (hr ix v hl)
 case build T parts =>
  cases hT : τ T with
  | none=>simp [hT] at h
  | some i =>
   simp only [hT] at h ⊢
   obtain ⟨d,hdd,_,hdesc⟩ := (hτ T i hT).und
   cases hd : i.desc <;> simp only [hd] at h hdesc ⊢ <;> try exact h.elim
   rename_i l
   obtain ⟨fs,rfl,hfs,hall⟩ := hdesc
   obtain ⟨x,z,hx,hxs,_,hxz,hzc⟩ := (hτ T i hT).info
   have hpl : fs.toList.mapM (fun f=>(P.info? f.type).map fun i=>(f.offset,i.size)) = some (fs.toList.map fun f=>(f.offset,P.cellsOf f.type)) := by
    have : ∀ (L : List Field),(∀ f ∈ L,∃ x,P.info? f.type = some x) -> L.mapM (fun f=>(P.info? f.type).map fun i=>(f.offset,i.size)) = some (L.map fun f=>(f.offset,P.cellsOf f.type)) := by
     intro L
     induction L with
     | nil=>intro _;rfl
     | cons f L ih =>
      intro hL
      obtain ⟨y,hy⟩ := hL f (by simp)
      rw [List.mapM_cons,ih (fun g hg=>hL g (by simp [hg]))]
      simp [hy,Program.cellsOf]
    refine this _ (fun f hf=>?_)
    obtain ⟨j,hj⟩ := List.getElem?_of_mem hf
    have hjl : j < l.length := by have := (List.getElem?_eq_some_iff.1 hj).1;simp at this;omega
    obtain ⟨fd,h1,_,h3,y,hy,_⟩ := hall j _ _ (show l[j]? = some ((l[j]).1,(l[j]).2) from List.getElem?_eq_getElem hjl)
    rw [Array.getElem?_toList] at hj
    rw [hj] at h1;cases h1
    exact ⟨y,h3 ▸ hy⟩
   have hplace : ∀ (f off E : Nat) (ie : TyI),l[f]? = some (off,E) -> τ E = some ie -> ((fs.toList.map fun f=>(f.offset,P.cellsOf f.type)).toArray[·]?) f = some (off,ie.size) := by
    intro f off E ie hf hE'
    obtain ⟨fd,h1,h2,h3,y,hy,_⟩ := hall f off E hf
    obtain ⟨y',_,hy',hs',_⟩ := (hτ E ie hE').info
    simp [h1,h2,h3,Program.cellsOf,hy',hs']
   obtain ⟨out,hK,hK',os,hfill,hcells⟩ := bZ hτ hE hplace parts.toList _ _ _ (kZ (ρ := ρ) (Im := Im) (i := i) w.heap) h
   refine ⟨_,hK,hK' _ rfl,Ran.of (v := .agg os) ?_ hcells.agg⟩
   have hb : P.built T (parts.map fun x=>(x.1,a.eval x.2)).toList = some os := by
    unfold Program.built
    simp only [hx,hdd,hxz,hpl,hzc,Array.toList_map]
    exact hfill
   have := run_build w T _ os hb
   simp only [execOp,hop,Sem.run_bind]
   rw [this];rfl
 case slice T x lo hi mx =>
  cases mx with
  | some m=>exact h.elim
  | none =>
   simp only at h ⊢
   obtain ⟨av,h1,h2,u,h3,h4⟩ := qoi (vlo := lo.map a.eval) (vhi := hi.map a.eval) hτ (hE x)
    (by cases lo with|none=>exact .inl ⟨rfl,rfl⟩|some y=>exact .inr ⟨_,_,rfl,rfl,hE y⟩)
    (by cases hi with|none=>exact .inl ⟨rfl,rfl⟩|some y=>exact .inr ⟨_,_,rfl,rfl,hE y⟩) h
   exact ⟨av,h1,h2,Ran.of (by simp only [execOp,hop,Sem.run_bind,Option.map_none];rw [h3];rfl) h4⟩
 case call c =>
  obtain ⟨callee,args,ts⟩ := c
  cases callee with
  | value f=>rw [hop] at hnc;cases hnc
  | invoke=>exact h.elim
  | builtin b =>
   cases b <;> simp only at h ⊢ <;> try exact h.elim
   case len =>
    split at h <;> rename_i e1 e2 <;> first|exact h.elim|skip
    rename_i x T
    obtain ⟨av,h1,h2,u,h3,h4⟩ := qoq hτ hR.env (hE x) h
    have e1' : args = #[x] := by cases args;simpa using e1
    have e2' : ts = #[T] := by cases ts;simpa using e2
    subst e1' e2'
    refine ⟨av,h1,h2,Ran.of (v := u) ?_ h4⟩
    have h3' : (Builtin.len_ #[T] o.type #[a.eval x]).run P w = .ok u w := h3
    simp [execOp,hop,resolve,invoke,builtin,h3']
   case min =>
    split at h <;> rename_i e1 <;> first|exact h.elim|skip
    rename_i x y
    have hx := hE x
    have hy := hE y
    split at h <;> first|exact h.elim|skip
    rename_i k m k' m' ex ey
    rw [ex] at hx
    rw [ey] at hy
    have hx' := i9 hx
    have hy' := i9 hy
    have e1' : args = #[x,y] := by cases args;simpa using e1
    subst e1'
    refine ⟨_,h,by simp,Ran.of (v := .int k (if m' < m then m' else m)) ?_ (mA _ _ _)⟩
    simp [execOp,hop,resolve,invoke,builtin,hx',hy',Builtin.min_,Builtin.min2]
   case max =>
    split at h <;> rename_i e1 <;> first|exact h.elim|skip
    rename_i x y
    have hx := hE x
    have hy := hE y
    split at h <;> first|exact h.elim|skip
    rename_i k m k' m' ex ey
    rw [ex] at hx
    rw [ey] at hy
    have hx' := i9 hx
    have hy' := i9 hy
    have e1' : args = #[x,y] := by cases args;simpa using e1
    subst e1'
    refine ⟨_,h,by simp,Ran.of (v := .int k (if m < m' then m' else m)) ?_ (mA _ _ _)⟩
    simp [execOp,hop,resolve,invoke,builtin,hx',hy',Builtin.max_,Builtin.max2]
theorem qby [hT : Nonempty (TabH w0.heap Im0)] (hτ : d6 P τ) (hR : Rel w0 G Im0 S ρ Im a w) {o : Oper} {K : AV -> Prop} (h : pval P τ (ev S) S.blk o.op K) :
 ∃ av,K av /\ pval P τ (ev S) S.blk o.op (· = av) /\ After P w0 G Im0 S ρ a w o av := by
 cases hnc : kG o.op with
 | true =>
  obtain ⟨av,h1,h2,v,h3,h4⟩ := qbz hτ hR hnc h
  exact ⟨av,h1,h2,After.of_run hR h3 h4⟩
 | false =>
  cases hop : o.op <;> rw [hop] at hnc
  case call c =>
   obtain ⟨callee,args,ts⟩ := c
   cases callee with
   | value f =>
    simp only [hop,pval] at h ⊢
    split at h <;> rename_i e <;> first|exact h.elim|skip
    exact qb3 hR hop e h
   | invoke=>exact absurd hnc (by simp [kG])
   | builtin b=>exact absurd hnc (by simp [kG])
  all_goals exact absurd hnc (by simp [kG])
end
theorem blt_lt {t n : Nat} (h : Nat.blt t n = true) : t < n := Nat.le_of_ble_eq_true h
theorem updT_same (tm : Nat -> AV) (t : Nat) (v : AV) : z6 tm t v t = v := by simp [z6]
theorem updT_ne {tm : Nat -> AV} {t s : Nat} (v : AV) (h : s ≠ t) : z6 tm t v s = tm s := by
 have : Nat.beq s t = false := by cases hb : Nat.beq s t with|false=>rfl|true=>exact absurd (Nat.eq_of_beq_eq_true hb) h
 simp [z6,this]
section
variable {P : Program} {τ : Tys} {Im Im' : Nat -> Nat -> Prop} {ρ ρ' : Rho} {h h' : Array Obj} {w w' : World}
variable {w0 : World} {G : GP} {Im0 : Nat -> Nat -> Prop} {S : AState} {a : Act} {n : Nat} {tm : Nat -> AV} {blk : Nat -> Option Blk}
theorem Rel.put (hR : Rel w0 G Im0 ⟨n,tm,blk⟩ ρ Im a w) {t : Nat} {av : AV} {v : Value} (ht : t < n) (hv : AVR ρ w.heap Im av v) :
 Rel w0 G Im0 ⟨n,z6 tm t av,blk⟩ ρ Im (a.put (some t) v) w := by
 have hsz : a.tmps.size = n := hR.size
 refine ⟨hR.defers,by simpa [Act.put] using hsz,fun s=>?_,hR.env,hR.ext⟩
 by_cases e : s = t
 . subst e
   have hlt : s < a.tmps.size := by rw [hsz];exact ht
   simp only [updT_same,Act.put]
   rw [Array.getD_eq_getD_getElem?,Array.getElem?_setIfInBounds_self_of_lt hlt]
   exact hv
 . simp only [updT_ne _ e,Act.put]
   rw [Array.getD_eq_getD_getElem?,Array.getElem?_setIfInBounds_ne (fun e'=>e e'.symm),<- Array.getD_eq_getD_getElem?]
   exact hR.tm s
theorem zB {dst : Option Nat} {av : AV} {K : AState -> Prop} (h : S.put dst av K) :
 ∃ S',K S' /\ ∀ {ρ Im a w v},Rel w0 G Im0 S ρ Im a w -> AVR ρ w.heap Im av v -> Rel w0 G Im0 S' ρ Im (a.put dst v) w := by
 unfold AState.put at h
 cases dst with
 | none=>exact ⟨S,h,fun hR _=>hR⟩
 | some t =>
  obtain ⟨n,tm,blk⟩ := S
  simp only at h
  cases hb : Nat.blt t n with
  | false=>simp [hb] at h
  | true =>
   simp only [hb] at h
   exact ⟨_,h,fun hR hv=>hR.put (blt_lt hb) hv⟩
theorem Rel.kill {i : Nat} (hR : Rel w0 G Im0 ⟨n,tm,blk⟩ ρ Im a w) (hρ : ∀ j,j ≠ i -> ρ' j = ρ j) : Rel w0 G Im0 ⟨n,wA tm i,g7 blk i⟩ ρ' Im a w := by
 refine ⟨hR.defers,hR.size,fun t=>(hR.tm t).kill hρ,hR.env.kill hρ,⟨fun j r x hj hr hx=>?_,hR.ext.im0,hR.ext.imNew,hR.ext.keep,hR.ext.frame,hR.ext.grow,hR.ext.os,hR.ext.tape,hR.ext.output,fun j p hp hj=>?_⟩⟩
 . have hne : j ≠ i := fun e=>by subst e;exact hj (killB_same _ _)
   refine hR.ext.own j r x (fun e=>hj ?_) ((hρ j hne).symm.trans hr) hx
   change blk j = none at e
   change g7 blk i j = none
   rw [killB_ne hne,e];rfl
 . have hne : j ≠ i := fun e=>by subst e;exact hj (killB_same _ _)
   refine (hρ j hne).trans (hR.ext.pin j p hp (fun e=>hj ?_))
   change blk j = none at e
   change g7 blk i j = none
   rw [killB_ne hne,e];rfl
theorem Rel.ins {t : Nat} {b : Blk} (hR : Rel w0 G Im0 ⟨n,tm,blk⟩ ρ Im a w) (hn : blk t = none) (hB : BlkR ρ w.heap Im t b)
 (hI : ∀ r o,ρ t = some r -> (Im r.b o ↔ o < b.pinned)) (hf : ∀ r,ρ t = some r -> ¬ r.fp r.b /\ ∀ x,r.fp x -> x < w.heap.size /\ ∀ o,¬ Im x o)
 (hne : ∀ r j s x,ρ t = some r -> blk j ≠ none -> ρ j = some s -> s.has x -> ¬ r.has x)
 (hown : ∀ r x,ρ t = some r -> r.has x -> G x \/ w0.heap.size <= x) (hgp : ∀ p,G.pin t = some p -> ρ t = p) : Rel w0 G Im0 ⟨n,tm,updB blk t (some b)⟩ ρ Im a w := by
 refine ⟨hR.defers,hR.size,hR.tm,hR.env.insert hn hB hI hf hne,⟨fun j r x hj hr hx=>?_,hR.ext.im0,hR.ext.imNew,hR.ext.keep,hR.ext.frame,hR.ext.grow,hR.ext.os,hR.ext.tape,hR.ext.output,fun j p hp hj=>?_⟩⟩
 . by_cases e : j = t
   . subst e;exact hown r x hr hx
   . refine hR.ext.own j r x (fun e'=>hj ?_) hr hx
     change blk j = none at e'
     change updB blk t (some b) j = none
     rw [updB_ne _ e];exact e'
 . by_cases e : j = t
   . subst e;exact hgp p hp
   . refine hR.ext.pin j p hp (fun e'=>hj ?_)
     change blk j = none at e'
     change updB blk t (some b) j = none
     rw [updB_ne _ e];exact e'
theorem Rel.new {t : Nat} {b : Blk} {av : AV} {v : Value} {ro : Option RI} (hR : Rel w0 G Im0 ⟨n,tm,blk⟩ ρ Im a w) (ht : t < n /\ t < 900000)
 (hf : ∀ b,b < w.heap.size -> w'.heap[b]? = w.heap[b]?) (hg : w.heap.size <= w'.heap.size) (ho : w'.os = w.os) (htp : w'.tape = w.tape) (hout : w'.output = w.output)
 (hro : ∀ r,ro = some r -> w.heap.size <= r.b /\ ∀ x,¬ r.fp x) (hB : BlkR (o8 ρ t ro) w'.heap Im t b) (hpin : b.pinned = 0) (hv : AVR (o8 ρ t ro) w'.heap Im av v) :
 Rel w0 G Im0 ⟨n,z6 (wA tm t) t av,updB (g7 blk t) t (some b)⟩ (o8 ρ t ro) Im (a.put (some t) v) w' := by
 have h1 := hR.after (Im2 := Im) hf hg ho htp hout (fun _ _ x=>x) (fun _ _ x => .inl x)
 have h2 := h1.kill (ρ' := o8 ρ t ro) (i := t) (fun j hj=>bD _ hj)
 refine Rel.put (h2.ins (killB_same _ _) hB (fun r o hr=>?_) (fun r hr=>?_) (fun r j s x hr hj hs hx hy=>?_) (fun r x hr hx=>?_) (fun p hp=>by rw [G.lt t ht.2] at hp;cases hp)) ht.1 hv
 . rw [updR_same] at hr
   rw [hpin]
   refine ⟨fun hI=>?_,fun h=>absurd h omG⟩
   have := hR.env.imlt _ _ hI
   have := (hro r hr).1
   omega
 . rw [updR_same] at hr
   have := (hro r hr).2
   exact ⟨this _,fun x hx=>absurd hx (this x)⟩
 . rw [updR_same] at hr
   have hne : j ≠ t := fun e=>by subst e;exact hj (killB_same _ _)
   rw [bD _ hne] at hs
   rcases hy with hy|hy
   . cases hb : blk j with
     | none=>rw [killB_ne hne,hb] at hj;exact hj rfl
     | some c =>
      have := hR.env.lt (i := j) (by show blk j ≠ none;simp [hb]) hs hx
      have := (hro r hr).1
      omega
   . exact (hro r hr).2 x hy
 . rw [updR_same] at hr
   have h3 := hro r hr
   have := hR.ext.grow
   rcases hx with hx|hx
   . right;omega
   . exact absurd hx (h3.2 x)
theorem mD {t : Nat} {b : Blk} {av : AV} {K : AState -> Prop} (h : S.new t b av K) :
 ∃ n tm blk,S = ⟨n,tm,blk⟩ /\ (t < n /\ t < 900000) /\ K ⟨n,z6 (wA tm t) t av,updB (g7 blk t) t (some b)⟩ := by
 obtain ⟨n,tm,blk⟩ := S
 simp only [AState.new] at h
 cases hb : Nat.blt t n with
 | false=>simp [hb] at h
 | true =>
  simp only [hb] at h
  cases hb2 : Nat.blt t 900000 with
  | false=>simp only [hb2] at h
  | true=>simp only [hb2] at h;exact ⟨n,tm,blk,rfl,⟨blt_lt hb,blt_lt hb2⟩,h⟩
theorem Rel.write {i : Nat} {b b' : Blk} {r : RI} (hR : Rel w0 G Im0 ⟨n,tm,blk⟩ ρ Im a w) (hi : blk i = some b) (hr : ρ i = some r) (hk : ∀ k,k ≠ r.b -> w'.heap[k]? = w.heap[k]?)
 (hIm : ∀ o,Im r.b o -> hcell w'.heap r.b o = hcell w.heap r.b o) (hg : w.heap.size <= w'.heap.size) (ho : w'.os = w.os) (htp : w'.tape = w.tape) (hout : w'.output = w.output)
 (hI : ∀ b o,Im b o -> Im' b o) (hI' : ∀ b o,Im' b o -> Im b o \/ b = r.b)
 (hB : BlkR ρ w'.heap Im' i b') (hp : ∀ o,Im' r.b o ↔ o < b'.pinned) : Rel w0 G Im0 ⟨n,tm,updB blk i (some b')⟩ ρ Im' a w' := by
 have hown := hR.ext.own i r r.b (by change blk i ≠ none;simp [hi]) hr (.inl rfl)
 have hc : ∀ b o,Im b o -> hcell w'.heap b o = hcell w.heap b o := fun b o h1=>by
  by_cases e : b = r.b
  . subst e;exact hIm o h1
  . exact dE (hk b e) o
 refine ⟨hR.defers,hR.size,fun t=>(hR.tm t).mono hc hI,hR.env.write hi hr hk hIm hg hI hI' hB hp,
  ⟨fun j s x hj hs hx=>?_,fun b o h1=>hI b o (hR.ext.im0 b o h1),fun b o h1=>?_,fun b o h1=>?_,fun c hc' hG=>?_,Nat.le_trans hR.ext.grow hg,ho.trans hR.ext.os,htp.trans hR.ext.tape,hout.trans hR.ext.output,fun j p hp hj=>hR.ext.pin j p hp (fun e=>hj ?_)⟩⟩
 . refine hR.ext.own j s x (fun e'=>hj ?_) hs hx
   change blk j = none at e'
   change updB blk i (some b') j = none
   by_cases e : j = i
   . subst e;rw [hi] at e';cases e'
   . rw [updB_ne _ e];exact e'
 . rcases hI' b o h1 with h2|h2
   . exact hR.ext.imNew b o h2
   . subst h2;exact .inr hown
 . rw [hc b o (hR.ext.im0 b o h1)];exact hR.ext.keep b o h1
 . have hne : c ≠ r.b := fun e=>by
    subst e
    rcases hown with h2|h2
    . exact hG h2
    . omega
   rw [hk c hne];exact hR.ext.frame c hc' hG
 . change blk j = none at e
   change updB blk i (some b') j = none
   have hne : j ≠ i := fun e2=>by subst e2;rw [hi] at e;cases e
   rw [updB_ne _ hne];exact e
theorem Rel.freeze {i T : Nat} {κ : K} {l : List κ.T} {sh : Bool} (hR : Rel w0 G Im0 ⟨n,tm,blk⟩ ρ Im a w) (hi : blk i = some (.row T κ l sh)) :
 ∃ Im',Rel w0 G Im0 ⟨n,tm,updB blk i (some (.row T κ l true))⟩ ρ Im' a w /\ (∀ b o,Im b o -> Im' b o) /\ ∀ v,AVR ρ w.heap Im (.row i) v -> RepD w.heap Im' (.seq κ l) v := by
 cases hr : ρ i with
 | some r =>
  refine ⟨sO Im r.b (l.length * κ.sz), ?_,fun _ _ x => .inl x,fun v hv=>rU hR.env hi hv (fun _ _ x => .inl x) (fun s o hs ho=>?_)⟩
  . have hE := hR.env.freeze hi hr
    exact hR.write hi hr (fun _ _=>rfl) (fun _ _=>rfl) (Nat.le_refl _) rfl rfl rfl (fun _ _ x => .inl x) (fun b o x=>x.imp id And.left)
     (hE.bl i _ (updB_same _ _ _)) (fun o=>hE.imOwn i _ r o (updB_same _ _ _) hr)
  . rw [hr] at hs;cases hs;exact .inr ⟨rfl,ho⟩
 | none =>
  have hb := hR.env.bl i _ hi
  simp only [BlkR,hr] at hb
  refine ⟨Im, ?_,fun _ _ x=>x,fun v hv=>rU hR.env hi hv (fun _ _ x=>x) (fun s o hs ho=>by rw [hr] at hs;cases hs)⟩
  have nn : ∀ {j},updB blk i (some (.row T κ l true)) j ≠ none -> blk j ≠ none := fun {j} hj e'=>by
   by_cases e : j = i
   . subst e;rw [hi] at e';cases e'
   . rw [updB_ne _ e] at hj;exact hj e'
  refine ⟨hR.defers,hR.size,hR.tm,⟨fun j b hj=>?_,fun j k s u x hj hk=>hR.env.inj j k s u x (nn hj) (nn hk),fun j s hj=>hR.env.fpNe j s (nn hj),fun j s x hj=>hR.env.fpLt j s x (nn hj),
   fun j s x o hj=>hR.env.fpIm j s x o (nn hj),hR.env.imlt,fun j b s o hj hs=>?_⟩,
   ⟨fun j s x hj=>hR.ext.own j s x (nn hj),hR.ext.im0,hR.ext.imNew,hR.ext.keep,hR.ext.frame,hR.ext.grow,hR.ext.os,hR.ext.tape,hR.ext.output,fun j p hp hj=>hR.ext.pin j p hp (nn hj)⟩⟩
  . by_cases e : j = i
    . subst e;change updB blk j _ j = some b at hj;rw [updB_same] at hj;cases hj
      simp only [BlkR,hr];exact hb
    . change updB blk i _ j = some b at hj;rw [updB_ne _ e] at hj;exact hR.env.bl j b hj
  . by_cases e : j = i
    . subst e;rw [hr] at hs;cases hs
    . change updB blk i _ j = some b at hj;rw [updB_ne _ e] at hj;exact hR.env.imOwn j b s o hj hs
theorem Rel.giveUp {i : Nat} (hR : Rel w0 G Im0 ⟨n,tm,blk⟩ ρ Im a w) (hiN : blk i ≠ none) (hr0 : ∃ r,ρ i = some r) :
 ∃ Im',Rel w0 G Im0 ⟨n,tm,updB blk i none⟩ ρ Im' a w /\ (∀ b o,Im b o -> Im' b o) /\ ∃ r,ρ i = some r /\ ∀ o,Im' r.b o := by
 have hI : ∀ b o,Im b o -> Im b o \/ ∃ r,ρ i = some r /\ r.has b := fun _ _ => .inl
 have nn : ∀ {j},updB blk i none j ≠ none -> blk j ≠ none /\ j ≠ i := fun {j} hj=>by
  by_cases e : j = i
  . subst e;exact absurd (updB_same _ _ _) hj
  . rw [updB_ne _ e] at hj;exact ⟨hj,e⟩
 have far : ∀ {j s x},updB blk i none j ≠ none -> ρ j = some s -> s.has x -> ¬ ∃ r,ρ i = some r /\ r.has x := fun {j s x} hj hs hx ⟨r,hr,hx'⟩ =>
  (nn hj).2 (hR.env.inj j i s r x (nn hj).1 hiN hs hr hx hx')
 have hE := hR.env.drop (i := i)
 obtain ⟨r0,hr0⟩ := hr0
 refine ⟨fun b o=>Im b o \/ ∃ r,ρ i = some r /\ r.has b,⟨hR.defers,hR.size,fun t=>(hR.tm t).mono (fun _ _ _=>rfl) hI,⟨fun j b hj=>(hE.bl j b hj).mono (fun _ _ _ _=>rfl) (fun _ _ _=>rfl) hI,hE.inj,hE.fpNe,hE.fpLt,
  fun j s x o hj hs hx h=>?_,fun b o h=>?_,fun j b s o hj hs=>?_⟩,
  ⟨fun j s x hj=>hR.ext.own j s x (nn hj).1,fun b o h => .inl (hR.ext.im0 b o h),fun b o h=>?_,hR.ext.keep,hR.ext.frame,hR.ext.grow,hR.ext.os,hR.ext.tape,hR.ext.output,fun j p hp hj=>hR.ext.pin j p hp (nn hj).1⟩⟩,
  hI,r0,hr0,fun o => .inr ⟨r0,hr0,.inl rfl⟩⟩
 . rcases h with h|h
   . exact hE.fpIm j s x o hj hs hx h
   . exact far hj hs (.inr hx) h
 . rcases h with h|⟨r,hr,hx⟩
   . exact hE.imlt b o h
   . exact hR.env.lt hiN hr hx
 . rw [<- hE.imOwn j b s o hj hs]
   have hj' : updB blk i none j ≠ none := by
    change updB blk i none j = some b at hj
    rw [hj];exact fun h=>by cases h
   exact ⟨fun h=>h.resolve_right (far hj' hs (.inl rfl)),.inl⟩
 . rcases h with h|⟨r,hr,hx⟩
   . exact hR.ext.imNew b o h
   . exact .inr (hR.ext.own i r b hiN hr hx)
theorem Rel.melt {i T : Nat} {κ : K} {l : List κ.T} (hR : Rel w0 G Im0 ⟨n,tm,blk⟩ ρ Im a w) (hi : blk i = some (.tree T κ l)) :
 ∃ Im',Rel w0 G Im0 ⟨n,tm,updB blk i none⟩ ρ Im' a w /\ (∀ b o,Im b o -> Im' b o) /\ ∀ v,AVR ρ w.heap Im (.row i) v -> RepD w.heap Im' (.seq κ l) v := by
 have hI : ∀ b o,Im b o -> Im b o \/ ∃ r,ρ i = some r /\ r.has b := fun _ _ => .inl
 have nn : ∀ {j},updB blk i none j ≠ none -> blk j ≠ none /\ j ≠ i := fun {j} hj=>by
  by_cases e : j = i
  . subst e;exact absurd (updB_same _ _ _) hj
  . rw [updB_ne _ e] at hj;exact ⟨hj,e⟩
 have hiN : blk i ≠ none := by rw [hi];exact fun h=>by cases h
 have far : ∀ {j s x},updB blk i none j ≠ none -> ρ j = some s -> s.has x -> ¬ ∃ r,ρ i = some r /\ r.has x := fun {j s x} hj hs hx ⟨r,hr,hx'⟩ =>
  (nn hj).2 (hR.env.inj j i s r x (nn hj).1 hiN hs hr hx hx')
 have hE := hR.env.drop (i := i)
 refine ⟨fun b o=>Im b o \/ ∃ r,ρ i = some r /\ r.has b,⟨hR.defers,hR.size,fun t=>(hR.tm t).mono (fun _ _ _=>rfl) hI,⟨fun j b hj=>(hE.bl j b hj).mono (fun _ _ _ _=>rfl) (fun _ _ _=>rfl) hI,hE.inj,hE.fpNe,hE.fpLt,
  fun j s x o hj hs hx h=>?_,fun b o h=>?_,fun j b s o hj hs=>?_⟩,
  ⟨fun j s x hj=>hR.ext.own j s x (nn hj).1,fun b o h => .inl (hR.ext.im0 b o h),fun b o h=>?_,hR.ext.keep,hR.ext.frame,hR.ext.grow,hR.ext.os,hR.ext.tape,hR.ext.output,fun j p hp hj=>hR.ext.pin j p hp (nn hj).1⟩⟩,
  hI,fun v hv=>vT hR.env hi hv fun r x o hr hx => .inr ⟨r,hr,hx⟩⟩
 . rcases h with h|h
   . exact hE.fpIm j s x o hj hs hx h
   . exact far hj hs (.inr hx) h
 . rcases h with h|⟨r,hr,hx⟩
   . exact hE.imlt b o h
   . exact hR.env.lt hiN hr hx
 . rw [<- hE.imOwn j b s o hj hs]
   have hj' : updB blk i none j ≠ none := by
    change updB blk i none j = some b at hj
    rw [hj];exact fun h=>by cases h
   exact ⟨fun h=>h.resolve_right (far hj' hs (.inl rfl)),.inl⟩
 . rcases h with h|⟨r,hr,hx⟩
   . exact hR.ext.imNew b o h
   . exact .inr (hR.ext.own i r b hiN hr hx)
end
section
variable {P : Program} {τ : Tys} {Im Im' : Nat -> Nat -> Prop} {ρ ρ' : Rho} {h h' : Array Obj} {w w' : World}
variable {w0 : World} {G : GP} {Im0 : Nat -> Nat -> Prop} {S : AState} {a : Act} {n : Nat} {tm : Nat -> AV} {blk : Nat -> Option Blk}
theorem lI {h : Array Obj} {o : Obj} {b : Nat} (hb : b < h.size) : (h.push o)[b]? = h[b]? := by
 rw [Array.getElem?_push,if_neg omG]
theorem sL (h : Array Obj) (o : Obj) : (h.push o)[h.size]? = some o := by simp
theorem Rel.newBox (hR : Rel w0 G Im0 ⟨n,tm,blk⟩ ρ Im a w) {t T : Nat} (ht : t < n /\ t < 900000) {cells : List AV} {cs : Array Value}
 (hb : mB cells = true -> T = bldT) (hc : CellsR (o8 ρ t (some (.at w.heap.size 0 0))) w.heap Im cells cs) :
 Rel w0 G Im0 ⟨n,z6 (wA tm t) t (.ptr t 0),updB (g7 blk t) t (some (.box cells))⟩ (o8 ρ t (some (.at w.heap.size 0 0))) Im
  (a.put (some t) (.pointer (some ⟨w.heap.size,0,none⟩))) (w.alloc (.cells cs T)) := by
 have hlt : ∀ b o,Im b o -> hcell (w.alloc (.cells cs T)).heap b o = hcell w.heap b o := fun b o hI=>dE (lI (hR.env.imlt b o hI)) o
 refine hR.new ht (fun b hb=>lI hb) (by rw [World.size_alloc];omega) rfl rfl rfl (fun r hr=>?_) ?_ rfl ?_
 . cases hr;exact ⟨Nat.le_refl _,fun _ h=>h⟩
 . refine ⟨_,cs,T,updR_same _ _ _,sL _ _,⟨hc.1,hb⟩,fun j x hx=>?_⟩
   obtain ⟨c,h1,h2⟩ := hc.2 j x hx
   exact ⟨c,h1,h2.mono hlt (fun _ _ x=>x)⟩
 . exact .ptr t 0 (.at w.heap.size 0 0) (updR_same _ _ _)
theorem qbk (T : Nat) (v : Value) (w : World) : (newVar T v).run P w = .ok ⟨w.heap.size,0,none⟩ (w.alloc (.cells v.cells T)) := by
 simp [newVar,newRow]
theorem qop (hτ : d6 P τ) {o : Oper} {T t : Nat} {i : TyI} {K : AState -> Prop} (hop : o.op = .alloc T) (hdst : o.dst = some t) (hT : τ T = some i)
 (hb : bldN (i.zero.map xF) T = true) (h : S.new t (.box (i.zero.map xF)) (.ptr t 0) K) (hR : Rel w0 G Im0 S ρ Im a w) {next : Act -> World -> Prop} {Q : Exit -> Act -> World -> Prop}
 (hn : ∀ S' a' w',K S' -> o5 w0 G Im0 S' a' w' -> next a' w') : o.wp P a w next Q := by
 obtain ⟨n,tm,blk,rfl,ht,hK⟩ := mD h
 obtain ⟨z,hz,hzc⟩ := qbi (hτ T i hT) w
 have hz' : (zeroValue T).run P w = .ok z w := hz
 unfold Oper.wp
 have hrun : (execOp a.eval o).run P w = .ok (.value (.pointer (some ⟨w.heap.size,0,none⟩))) (w.alloc (.cells z.cells T)) := by
  simp only [execOp,hop,Instr.alloc,Sem.run_bind,hz',Result.andThen_ok,qbk,Sem.run_pure]
 rw [hrun]
 simp only [Oper.upon,hdst]
 exact hn _ _ _ hK ⟨_,_,hR.newBox ht (fun hi=>by unfold bldN at hb;rw [hi] at hb;exact Nat.eq_of_beq_eq_true hb) (by rw [hzc];exact kZ _)⟩
theorem box_ok {o : Oper} {T t : Nat} {x : Operand} {vs : List AV} {K : AState -> Prop} (hop : o.op = .box T x) (hdst : o.dst = some t) (hx : (ev S x).cells1 = some vs)
 (hb : mB vs = false) (h : S.new t (.box (vs.map (AV.killC t))) (.ptr t 0) K) (hR : Rel w0 G Im0 S ρ Im a w) {next : Act -> World -> Prop} {Q : Exit -> Act -> World -> Prop}
 (hn : ∀ S' a' w',K S' -> o5 w0 G Im0 S' a' w' -> next a' w') : o.wp P a w next Q := by
 have hE := (j7 hR x).cells1 hx
 obtain ⟨n,tm,blk,rfl,ht,hK⟩ := mD h
 unfold Oper.wp
 have hrun : (execOp a.eval o).run P w = .ok (.value (.pointer (some ⟨w.heap.size,0,none⟩))) (w.alloc (.cells (a.eval x).cells T)) := by
  simp only [execOp,hop,Instr.box,Sem.run_bind,Result.andThen_ok,qbk,Sem.run_pure]
 rw [hrun]
 simp only [Oper.upon,hdst]
 refine hn _ _ _ hK ⟨_,_,hR.newBox ht (fun hi=>by rw [qdu (fun a=>by cases a <;> simp [AV.killC] <;> split <;> simp) (fun a=>by cases a <;> simp [AV.killC] <;> split <;> simp) hi] at hb;cases hb) ⟨by simpa using hE.1,fun j y hy=>?_⟩⟩
 rw [List.getElem?_map] at hy
 cases hj : vs[j]? with
 | none=>simp [hj] at hy
 | some z =>
  simp [hj] at hy;subst hy
  obtain ⟨c,h1,h2⟩ := hE.2 j z hj
  exact ⟨c,h1,h2.killC (fun k hk=>bD _ hk)⟩
/-! ### data that goes into other memory -/
theorem qny {z : Dat} {v : AV} {u : Value} {K : AState -> Dat -> Prop} (h : yX S z v K) (hR : Rel w0 G Im0 S ρ Im a w) (hv : AVR ρ w.heap Im v u) :
 ∃ S' d Im',K S' d /\ Rel w0 G Im0 S' ρ Im' a w /\ (∀ b o,Im b o -> Im' b o) /\ RepD w.heap Im' d u := by
 unfold yX at h
 split at h
 . cases hv with|dat _ _ hd=>exact ⟨S,_,Im,h,hR,fun _ _ x=>x,hd⟩
 . split at h
   . obtain rfl := cH hv
     exact ⟨S,_,Im,h,hR,fun _ _ x=>x,.empty _ _ rfl none 0⟩
   . exact h.elim
 . rename_i i
   obtain ⟨n,tm,blk⟩ := S
   simp only at h
   split at h
   . rename_i T κ l sh hB
     obtain ⟨Im',h1,h2,h3⟩ := hR.freeze hB
     exact ⟨_,_,Im',h,h1,h2,h3 u hv⟩
   . rename_i T κ l hB
     obtain ⟨Im',h1,h2,h3⟩ := hR.melt hB
     exact ⟨_,_,Im',h,h1,h2,h3 u hv⟩
   . exact h.elim
 . exact h.elim
theorem xX : ∀ (zs : List Dat) (vs : List AV) (S : AState) (Im : Nat -> Nat -> Prop) (cf : Nat -> Value) (K : AState -> List Dat -> Prop),gP zs vs S K -> Rel w0 G Im0 S ρ Im a w ->
 (∀ j v,vs[j]? = some v -> AVR ρ w.heap Im v (cf j)) ->
 ∃ S' ds Im',K S' ds /\ Rel w0 G Im0 S' ρ Im' a w /\ (∀ b o,Im b o -> Im' b o) /\ ds.length = vs.length /\ vs.length = zs.length /\ ∀ j d,ds[j]? = some d -> RepD w.heap Im' d (cf j)
 | [],[],S,Im,cf,K,h,hR,_=>⟨S,[],Im,h,hR,fun _ _ x=>x,rfl,rfl,by simp⟩
 | z :: zs,v :: vs,S,Im,cf,K,h,hR,hv=>by
  simp only [gP] at h
  obtain ⟨S1,d,Im1,h1,hR1,hI1,hd⟩ := qny h hR (hv 0 v rfl)
  obtain ⟨S2,ds,Im2,h2,hR2,hI2,hl,hl',hds⟩ := xX zs vs S1 Im1 (fun j=>cf (j + 1)) _ h1 hR1 (fun j x hx=>(hv (j + 1) x (by simpa using hx)).mono (fun _ _ _=>rfl) hI1)
  refine ⟨S2,d :: ds,Im2,h2,hR2,fun b o x=>hI2 b o (hI1 b o x),by simp [hl],by simp [hl'],fun j x hx=>?_⟩
  cases j with
  | zero=>simp at hx;subst hx;exact hd.mono (fun _ _ _=>rfl) hI2
  | succ j=>simp at hx;exact hds j x hx
 | [],_ :: _,_,_,_,_,h,_,_=>h.elim
 | _ :: _,[],_,_,_,_,h,_,_=>h.elim
theorem vX {κ : K} {ds : List Dat} {y : κ.T} (h : κ.dec ds = some y) (j : Nat) (hj : j < κ.sz) : ∃ d,ds[j]? = some d /\ (κ.enc y).getD j (.bool false) = d := by
 have e := K.dec_enc h
 have hl := κ.enc_length y
 rw [e] at hl
 refine ⟨ds[j],List.getElem?_eq_getElem omG, ?_⟩
 rw [e,List.getD_eq_getElem?_getD,List.getElem?_eq_getElem omG];rfl
theorem qfo {κ : K} {zs : List Dat} {e : Operand -> AV} (hE : ∀ x,AVR ρ w.heap Im (e x) (a.eval x)) :
 ∀ (k : Nat) (parts : List (Nat × Operand)) (S : AState) (Im1 : Nat -> Nat -> Prop) (K : AState -> List κ.T -> Prop),fM κ zs e k parts S K -> Rel w0 G Im0 S ρ Im1 a w -> (∀ b o,Im b o -> Im1 b o) ->
  ∃ S' ys Im',K S' ys /\ Rel w0 G Im0 S' ρ Im' a w /\ (∀ b o,Im1 b o -> Im' b o) /\ ys.length = parts.length /\
   ∀ (m : Nat) (p : Nat × Operand),parts[m]? = some p -> p.1 = k + m /\ (a.eval p.2).cells.size = κ.sz /\
    ∀ j,j < κ.sz -> ∃ c,(a.eval p.2).cells[j]? = some c /\ RepD w.heap Im' (t6 κ ys m j) c
 | k,[],S,Im1,K,h,hR,_=>⟨S,[],Im1,h,hR,fun _ _ x=>x,rfl,by simp⟩
 | k,(i,x) :: rest,S,Im1,K,h,hR,hI=>by
  simp only [fM] at h
  cases hb : Nat.beq i k with
  | false=>simp [hb] at h
  | true =>
   simp only [hb] at h
   have hik : i = k := Nat.eq_of_beq_eq_true hb
   cases hc : (e x).cells1 with
   | none=>simp [hc] at h
   | some vs =>
    simp only [hc] at h
    have hv := ((hE x).mono (h' := w.heap) (Im' := Im1) (fun _ _ _=>rfl) hI).cells1 hc
    obtain ⟨S1,ds,Im2,h1,hR1,hI1,hl,hl',hds⟩ := xX zs vs S Im1 (fun j=>(a.eval x).cells.getD j undef) _ h hR (fun j y hy=>by
     obtain ⟨c,h1,h2⟩ := hv.2 j y hy
     simpa [h1] using h2)
    cases hd : κ.dec ds with
    | none=>simp [hd] at h1
    | some y =>
     simp only [hd] at h1
     have hz : zs.length = κ.sz := by rw [<- hl',<- hl,<- Vg.K.dec_enc hd,κ.enc_length]
     obtain ⟨S2,ys,Im3,h2,hR2,hI2,hyl,hys⟩ := qfo hE (k + 1) rest S1 Im2 _ h1 hR1 (fun b o x=>hI1 b o (hI b o x))
     refine ⟨S2,y :: ys,Im3,h2,hR2,fun b o x=>hI2 b o (hI1 b o x),by simp [hyl],fun m p hp=>?_⟩
     cases m with
     | zero =>
      simp at hp;subst hp
      have hsz : (a.eval x).cells.size = κ.sz := by rw [hv.1,hl',hz]
      refine ⟨hik,hsz,fun j hj=>?_⟩
      obtain ⟨d,hd1,hd2⟩ := vX hd j hj
      have hlt : j < (a.eval x).cells.size := by omega
      refine ⟨(a.eval x).cells[j],Array.getElem?_eq_getElem hlt, ?_⟩
      have := hds j d hd1
      simp only [Array.getD_eq_getD_getElem?,Array.getElem?_eq_getElem hlt,Option.getD_some] at this
      simp only [t6,List.getD_cons_zero,hd2]
      exact this.mono (fun _ _ _=>rfl) hI2
     | succ m =>
      simp at hp
      obtain ⟨q1,q2,q3⟩ := hys m p hp
      exact ⟨by omega,q2,q3⟩
theorem qe7 (sz : Nat) : ∀ (parts : List (Nat × Value)) (k : Nat) (cs : Array Value),(∀ m p,parts[m]? = some p -> p.1 = k + m /\ p.2.cells.size = sz) -> (k + parts.length) * sz <= cs.size ->
 ∃ out,Instr.fill (fun i=>some (i * sz,sz)) cs parts = some out /\ out.size = cs.size /\ (∀ x,x < k * sz -> out[x]? = cs[x]?) /\
  ∀ m p,parts[m]? = some p -> ∀ j,j < sz -> out[(k + m) * sz + j]? = p.2.cells[j]?
 | [],k,cs,_,_=>⟨cs,rfl,rfl,fun _ _=>rfl,by simp⟩
 | (i,v) :: rest,k,cs,hp,hsz=>by
  obtain ⟨hi,hv⟩ := hp 0 (i,v) rfl
  simp only [Nat.add_zero] at hi
  subst hi
  have hle : i * sz + sz <= cs.size := by
   have : (i + 1) * sz <= (i + (rest.length + 1)) * sz := Nat.mul_le_mul_right _ omG
   rw [Nat.add_mul] at this
   simp only [List.length_cons] at hsz
   omega
  simp only at hv
  have e : v.cells.zipIdx.foldl (fun cs (x : Value × Nat)=>cs.setIfInBounds (i * sz + x.2) x.1) cs = (v.cells.toList.zipIdx 0).foldl (fun cs (x : Value × Nat)=>cs.setIfInBounds (i * sz + x.2) x.1) cs := by
   rw [<- Array.foldl_toList,Array.toList_zipIdx]
  have hs1 := lX (i * sz) v.cells.toList 0 cs
  have hg1 := mX (i * sz) v.cells.toList 0 cs
  obtain ⟨out,h1,h2,h3,h4⟩ := qe7 sz rest (i + 1) ((v.cells.toList.zipIdx 0).foldl (fun cs (x : Value × Nat)=>cs.setIfInBounds (i * sz + x.2) x.1) cs)
   (fun m p hm=>by have := hp (m + 1) p (by simpa using hm);exact ⟨by omega,this.2⟩)
   (by rw [hs1,show i + 1 + rest.length = i + (rest.length + 1) from by omega];exact hsz)
  have hl : v.cells.toList.length = sz := by simpa using hv
  refine ⟨out, ?_,by rw [h2,hs1],fun x hx=>?_,fun m p hm j hj=>?_⟩
  . have hn : ¬ (v.cells.size ≠ sz \/ i * sz + v.cells.size > cs.size) := by omega
    simp only [Instr.fill,decide_eq_true_eq,Bool.or_eq_true,if_neg hn]
    rw [e];exact h1
  . rw [h3 x (by rw [Nat.add_mul];omega),hg1 x (by rw [hl];omega),if_neg omG]
  . cases m with
    | zero =>
     simp at hm;subst hm
     rw [Nat.add_zero,h3 _ (by rw [Nat.add_mul];omega),hg1 _ (by rw [hl];omega),if_pos omG]
     simp only [Nat.add_zero,Nat.add_sub_cancel_left,Array.getElem?_toList]
    | succ m =>
     simp at hm
     have := h4 m p hm j hj
     rwa [show i + 1 + m = i + (m + 1) from by omega] at this
end
section
variable {P : Program} {τ : Tys} {Im Im' : Nat -> Nat -> Prop} {ρ ρ' : Rho} {h h' : Array Obj} {w w' : World}
variable {w0 : World} {G : GP} {Im0 : Nat -> Nat -> Prop} {S : AState} {a : Act} {n : Nat} {tm : Nat -> AV} {blk : Nat -> Option Blk}
theorem Rel.newRow (hR : Rel w0 G Im0 ⟨n,tm,blk⟩ ρ Im a w) {t E cap : Nat} {κ : K} {l : List κ.T} (ht : t < n /\ t < 900000) {cs : Array Value} (hh : w'.heap = w.heap.push (.cells cs E))
 (ho : w'.os = w.os) (htp : w'.tape = w.tape) (hout : w'.output = w.output) (hcap : l.length <= cap) (hmax : cap <= maxLen) (hsz : cap * κ.sz <= cs.size)
 (hc : ∀ k j,k < l.length -> j < κ.sz -> ∃ c,cs[k * κ.sz + j]? = some c /\ RepD w.heap Im (t6 κ l k j) c) :
 Rel w0 G Im0 ⟨n,z6 (wA tm t) t (.row t),updB (g7 blk t) t (some (.row E κ l false))⟩ (o8 ρ t (some (.at w.heap.size cap l.length))) Im
  (a.put (some t) (.slice (some ⟨w.heap.size,0,none⟩) l.length cap)) w' := by
 have hlt : ∀ b o,Im b o -> hcell w'.heap b o = hcell w.heap b o := fun b o hI=>dE (by rw [hh];exact lI (hR.env.imlt b o hI)) o
 refine hR.new ht (fun b hb=>by rw [hh];exact lI hb) (by rw [hh];simp) ho htp hout (fun r hr=>?_) ?_ rfl ?_
 . cases hr;exact ⟨Nat.le_refl _,fun _ h=>h⟩
 . simp only [BlkR,updR_same]
   refine ⟨trivial,hcap,hmax,cs,E,by rw [hh,qia];exact sL _ _,hsz,fun k j hk hj=>?_⟩
   obtain ⟨c,h1,h2⟩ := hc k j hk hj
   exact ⟨c,h1,h2.mono hlt (fun _ _ x=>x)⟩
 . exact .row t (.at w.heap.size cap l.length) (updR_same _ _ _)
theorem qgx (hτ : d6 P τ) {o : Oper} {T t len E : Nat} {κ κ' : K} {i ie : TyI} {parts : Array (Nat × Operand)} {K : AState -> Prop} (hop : o.op = .buildSlice T len parts) (hdst : o.dst = some t)
 (hT : τ T = some i) (hd : i.desc = .slice E κ') (hE : τ E = some ie) (hsz : ie.size = κ.sz) (hlen : parts.toList.length = len) (hbig : len * ie.size <= 16777216)
 (h : fM κ ie.zeroD (ev S) 0 parts.toList S fun S ys=>S.new t (.row E κ ys false) (.row t) K)
 (hR : Rel w0 G Im0 S ρ Im a w) {next : Act -> World -> Prop} {Q : Exit -> Act -> World -> Prop}
 (hn : ∀ S' a' w',K S' -> o5 w0 G Im0 S' a' w' -> next a' w') : o.wp P a w next Q := by
 obtain ⟨d,hdd,_,hdesc⟩ := (hτ T i hT).und
 simp only [hd] at hdesc
 subst hdesc
 obtain ⟨S',ys,Im',h1,hR',hI,hyl,hys⟩ := qfo (j7 hR) 0 parts.toList S Im _ h hR (fun _ _ x=>x)
 obtain ⟨n,tm,blk,rfl,ht,hK⟩ := mD h1
 obtain ⟨z,hz,hzc⟩ := qbi (hτ E ie hE) w
 have hpos : 0 < κ.sz := κ.sz_pos
 obtain ⟨zc,hzc'⟩ : ∃ zc : Array Value,zc = if len * ie.size = 0 then #[] else z.cells := ⟨_,rfl⟩
 obtain ⟨cs,hcs⟩ : ∃ cs : Array Value,cs = (Array.range (len * ie.size)).map (zc[· % zc.size]!) := ⟨_,rfl⟩
 have hcsz : cs.size = len * ie.size := by rw [hcs];simp
 have hps : ∀ (m : Nat) (p : Nat × Value),(parts.toList.map fun x=>(x.1,a.eval x.2))[m]? = some p -> ∃ q,parts.toList[m]? = some q /\ p = (q.1,a.eval q.2) := by
  intro m p hp
  rw [List.getElem?_map] at hp
  cases hq : parts.toList[m]? with
  | none=>simp [hq] at hp
  | some q=>simp [hq] at hp;exact ⟨q,rfl,hp.symm⟩
 obtain ⟨out,hf1,hf2,_,hf4⟩ := qe7 κ.sz (parts.toList.map fun x=>(x.1,a.eval x.2)) 0 cs (fun m p hp=>by
  obtain ⟨q,hq,rfl⟩ := hps m p hp
  obtain ⟨q1,q2,_⟩ := hys m q hq
  exact ⟨q1,q2⟩) (by simp only [List.length_map,Nat.zero_add,hlen,hcsz,hsz];exact Nat.le_refl _)
 have hle : ¬ (len * ie.size > 2 ^ 24) := by simpa using hbig
 have hrun : (execOp a.eval o).run P w = .ok (.value (.slice (some ⟨w.heap.size,0,none⟩) len len)) (w.alloc (.cells out E)) := by
  have : (Instr.buildSlice T len (parts.map fun x=>(x.1,a.eval x.2))).run P w = .ok (.slice (some ⟨w.heap.size,0,none⟩) len len) (w.alloc (.cells out E)) := by
   by_cases h0 : len * ie.size = 0
   . rw [if_pos h0] at hzc'
     subst hzc'
     simp only [Instr.buildSlice,Sem.run_bind,k8 hdd,Result.andThen_ok,dD (hτ E ie hE),h0,if_true,pure_bind]
     rw [h0] at hcs
     simp only [Array.toList_map,hsz,<- hcs,hf1,newRow]
     rfl
   . rw [if_neg h0] at hzc'
     subst hzc'
     simp only [Instr.buildSlice,Sem.run_bind,k8 hdd,Result.andThen_ok,dD (hτ E ie hE),if_neg hle,if_neg h0,hz,Sem.run_pure]
     rw [hsz] at hcs
     simp only [Array.toList_map,hsz,<- hcs,hf1,newRow]
     rfl
  simp only [execOp,hop,Sem.run_bind]
  rw [this];rfl
 unfold Oper.wp
 rw [hrun]
 simp only [Oper.upon,hdst]
 have hlenE : len = ys.length := by rw [hyl,hlen]
 subst hlenE
 have hmax : ys.length <= maxLen := by
  have : ys.length * 1 <= ys.length * ie.size := Nat.mul_le_mul_left _ omG
  unfold maxLen;omega
 refine hn _ _ _ hK ⟨_,_,hR'.newRow (w' := w.alloc (.cells out E)) ht rfl rfl rfl rfl (Nat.le_refl _) hmax (Nat.le_of_eq (Eq.symm (by rw [hf2,hcsz,hsz]))) (fun k j hk hj=>?_)⟩
 have hkp : k < parts.toList.length := by omega
 obtain ⟨_,_,q3⟩ := hys k _ (List.getElem?_eq_getElem hkp)
 obtain ⟨c,hc1,hc2⟩ := q3 j hj
 refine ⟨c, ?_,hc2⟩
 have := hf4 k (parts.toList[k].1,a.eval parts.toList[k].2) (by rw [List.getElem?_map,List.getElem?_eq_getElem hkp];rfl) j hj
 rw [Nat.zero_add] at this
 rw [this];exact hc1
theorem qc1 (hτ : d6 P τ) {o : Oper} {T t E : Nat} {κ κ' : K} {i ie : TyI} {x y : Operand} {z0 : κ.T} {l m : Int} {K : AState -> Prop} (hop : o.op = .makeSlice T x y) (hdst : o.dst = some t)
 (hT : τ T = some i) (hd : i.desc = .slice E κ') (hE : τ E = some ie) (hsz : ie.size = κ.sz) (hz0 : κ.dec ie.zeroD = some z0) (hx : ev S x = .dat (.int .i64 l)) (hy : ev S y = .dat (.int .i64 m))
 (hb : 0 <= l /\ l <= m /\ m * ie.bytes <= 140737488355328 /\ m <= maxLen)
 (h : S.new t (.row E κ (List.replicate l.toNat z0) false) (.row t) K)
 (hR : Rel w0 G Im0 S ρ Im a w) {next : Act -> World -> Prop} {Q : Exit -> Act -> World -> Prop}
 (hn : ∀ S' a' w',K S' -> o5 w0 G Im0 S' a' w' -> next a' w') : o.wp P a w next Q := by
 obtain ⟨d,hdd,_,hdesc⟩ := (hτ T i hT).und
 simp only [hd] at hdesc
 subst hdesc
 have hxv := j7 hR x
 rw [hx] at hxv
 have hxe := i9 hxv
 have hyv := j7 hR y
 rw [hy] at hyv
 have hye := i9 hyv
 obtain ⟨xi,z,hxi,hxs,hxb,hxz,hzc⟩ := (hτ E ie hE).info
 obtain ⟨n,tm,blk,rfl,ht,hK⟩ := mD h
 have hmm : m <= 9223372036854775807 := by have := hb.2.2.2;unfold maxLen at this;omega
 have hrun := run_make (P := P) w T E xi z hdd hxi hxz .i64 .i64 l m hb.1 hb.2.1 (by rw [hxb,Int.mul_comm];omega) hmm
 have hrun' : (execOp a.eval o).run P w = .ok (.value (.slice (some ⟨w.heap.size,0,none⟩) l.toNat m.toNat)) (w.alloc (.cells (madeCells z.cells (m.toNat * xi.size)) E)) := by
  simp only [execOp,hop,hxe,hye,Sem.run_bind]
  rw [hrun];rfl
 unfold Oper.wp
 rw [hrun']
 simp only [Oper.upon,hdst]
 have hzs : z.cells.size = κ.sz := by rw [hzc,List.size_toArray,(hτ E ie hE).zsz,hsz]
 have e : l.toNat = (List.replicate l.toNat z0).length := by simp
 have hmn : m.toNat <= maxLen := by have := hb.2.2.2;omega
 have key := hR.newRow (w' := w.alloc (.cells (madeCells z.cells (m.toNat * xi.size)) E)) (E := E) (cap := m.toNat) (κ := κ) (l := List.replicate l.toNat z0) ht rfl rfl rfl rfl (by simp;omega) hmn
  (Nat.le_of_eq (Eq.symm (by rw [size_madeCells,hxs,hsz]))) (fun k j hk hj=>by
   have hk' : k < l.toNat := by simpa using hk
   obtain ⟨dz,hdz1,hdz2⟩ := vX hz0 j hj
   obtain ⟨v,hv1,_,hv2⟩ := (hτ E ie hE).zrep j dz hdz1
   refine ⟨v, ?_, ?_⟩
   . have hlt : k * κ.sz + j < m.toNat * κ.sz := by
      have : (k + 1) * κ.sz <= m.toNat * κ.sz := Nat.mul_le_mul_right _ omG
      rw [Nat.add_mul] at this;omega
     have hmod : (k * κ.sz + j) % κ.sz = j := by rw [Nat.mul_comm,Nat.mul_add_mod,Nat.mod_eq_of_lt hj]
     have hjz : j < z.cells.size := by omega
     have hvz : z.cells[j]? = some v := by rw [hzc];simpa using hv1
     have hin : k * κ.sz + j < (madeCells z.cells (m.toNat * xi.size)).size := by rw [size_madeCells,hxs,hsz];exact hlt
     rw [Array.getElem?_eq_getElem hin]
     simp only [madeCells,Array.getElem_map,Array.getElem_range,hzs,hmod]
     rw [getElem!_pos z.cells j hjz]
     rw [Array.getElem?_eq_getElem hjz] at hvz
     exact hvz
   . have : (List.replicate l.toNat z0).getD k κ.dflt = z0 := by simp [List.getD_eq_getElem?_getD,hk']
     simp only [t6,this,hdz2]
     exact hv2 _ _)
 rw [<- e] at key
 exact hn _ _ _ hK ⟨_,_,key⟩
theorem hollowT {d : Dat} {v : Value} {F : Nat -> Prop} (hr : RepD h Im d v) (hd : d.hollow = true) (hv : Value.hollow v = true) : RepT h d v F := by
 cases hr with
 | int k n=>exact .int k n F
 | bool b=>exact .bool b F
 | str s=>exact .str s F
 | errN=>cases hd
 | errS=>cases hd
 | nof=>cases hd
 | clo=>cases hd
 | empty κ l hl a cap =>
  cases a with
  | some a=>simp [Value.hollow] at hv
  | none =>
   cases cap with
   | succ c=>simp [Value.hollow] at hv
   | zero=>exact .nil κ l hl F
 | seq κ l b o cap cf=>simp [Value.hollow] at hv
theorem Rel.newTree (hR : Rel w0 G Im0 ⟨n,tm,blk⟩ ρ Im a w) {t E cap : Nat} {κ : K} {l : List κ.T} (ht : t < n /\ t < 900000) {cs : Array Value} (hh : w'.heap = w.heap.push (.cells cs E))
 (ho : w'.os = w.os) (htp : w'.tape = w.tape) (hout : w'.output = w.output) (hcap : l.length <= cap) (hmax : cap <= maxLen) (hsz : cap * κ.sz <= cs.size)
 (hc : ∀ k j,k < l.length -> j < κ.sz -> ∃ c,cs[k * κ.sz + j]? = some c /\ RepT w.heap (t6 κ l k j) c (fun _=>False)) :
 Rel w0 G Im0 ⟨n,z6 (wA tm t) t (.row t),updB (g7 blk t) t (some (.tree E κ l))⟩ (o8 ρ t (some (.at w.heap.size cap l.length))) Im
  (a.put (some t) (.slice (some ⟨w.heap.size,0,none⟩) l.length cap)) w' := by
 refine hR.new ht (fun b hb=>by rw [hh];exact lI hb) (by rw [hh];simp) ho htp hout (fun r hr=>?_) ?_ rfl ?_
 . cases hr;exact ⟨Nat.le_refl _,fun _ h=>h⟩
 . simp only [BlkR,updR_same]
   refine ⟨trivial,hcap,hmax,cs,fun _ _ _=>False,_,by rw [hh];exact sL _ _,hsz,fun _ _ _ _ _ h=>h.elim,fun _ _ _ _ _ _ _ _ _ h=>h.elim,fun k j hk hj=>?_⟩
   obtain ⟨c,h1,h2⟩ := hc k j hk hj
   exact ⟨c,h1,h2.mono fun _ h=>h.elim⟩
 . exact .row t (.at w.heap.size cap l.length) (updR_same _ _ _)
theorem qk7 (hτ : d6 P τ) {o : Oper} {T t E : Nat} {κ κ' : K} {i ie : TyI} {x y : Operand} {z0 : κ.T} {l m : Int} {K : AState -> Prop} (hop : o.op = .makeSlice T x y) (hdst : o.dst = some t)
 (hT : τ T = some i) (hd : i.desc = .slice E κ') (hE : τ E = some ie) (hsz : ie.size = κ.sz) (hz0 : κ.dec ie.zeroD = some z0) (hx : ev S x = .dat (.int .i64 l)) (hy : ev S y = .dat (.int .i64 m))
 (hb : 0 <= l /\ l <= m /\ m * ie.bytes <= 140737488355328 /\ m <= maxLen)
 (hz : (ie.zero.all Value.hollow && ie.zeroD.all Dat.hollow) = true) (h : S.new t (.tree E κ (List.replicate l.toNat z0)) (.row t) K)
 (hR : Rel w0 G Im0 S ρ Im a w) {next : Act -> World -> Prop} {Q : Exit -> Act -> World -> Prop}
 (hn : ∀ S' a' w',K S' -> o5 w0 G Im0 S' a' w' -> next a' w') : o.wp P a w next Q := by
 obtain ⟨d,hdd,_,hdesc⟩ := (hτ T i hT).und
 simp only [hd] at hdesc
 subst hdesc
 have hxv := j7 hR x
 rw [hx] at hxv
 have hxe := i9 hxv
 have hyv := j7 hR y
 rw [hy] at hyv
 have hye := i9 hyv
 obtain ⟨xi,z,hxi,hxs,hxb,hxz,hzc⟩ := (hτ E ie hE).info
 obtain ⟨n,tm,blk,rfl,ht,hK⟩ := mD h
 have hmm : m <= 9223372036854775807 := by have := hb.2.2.2;unfold maxLen at this;omega
 have hrun := run_make (P := P) w T E xi z hdd hxi hxz .i64 .i64 l m hb.1 hb.2.1 (by rw [hxb,Int.mul_comm];omega) hmm
 have hrun' : (execOp a.eval o).run P w = .ok (.value (.slice (some ⟨w.heap.size,0,none⟩) l.toNat m.toNat)) (w.alloc (.cells (madeCells z.cells (m.toNat * xi.size)) E)) := by
  simp only [execOp,hop,hxe,hye,Sem.run_bind]
  rw [hrun];rfl
 unfold Oper.wp
 rw [hrun']
 simp only [Oper.upon,hdst]
 have hzs : z.cells.size = κ.sz := by rw [hzc,List.size_toArray,(hτ E ie hE).zsz,hsz]
 have e : l.toNat = (List.replicate l.toNat z0).length := by simp
 have hmn : m.toNat <= maxLen := by have := hb.2.2.2;omega
 have key := hR.newTree (w' := w.alloc (.cells (madeCells z.cells (m.toNat * xi.size)) E)) (E := E) (cap := m.toNat) (κ := κ) (l := List.replicate l.toNat z0) ht rfl rfl rfl rfl (by simp;omega) hmn
  (Nat.le_of_eq (Eq.symm (by rw [size_madeCells,hxs,hsz]))) (fun k j hk hj=>by
   have hk' : k < l.toNat := by simpa using hk
   obtain ⟨dz,hdz1,hdz2⟩ := vX hz0 j hj
   obtain ⟨v,hv1,_,hv2⟩ := (hτ E ie hE).zrep j dz hdz1
   refine ⟨v, ?_, ?_⟩
   . have hlt : k * κ.sz + j < m.toNat * κ.sz := by
      have : (k + 1) * κ.sz <= m.toNat * κ.sz := Nat.mul_le_mul_right _ omG
      rw [Nat.add_mul] at this;omega
     have hmod : (k * κ.sz + j) % κ.sz = j := by rw [Nat.mul_comm,Nat.mul_add_mod,Nat.mod_eq_of_lt hj]
     have hjz : j < z.cells.size := by omega
     have hvz : z.cells[j]? = some v := by rw [hzc];simpa using hv1
     have hin : k * κ.sz + j < (madeCells z.cells (m.toNat * xi.size)).size := by rw [size_madeCells,hxs,hsz];exact hlt
     rw [Array.getElem?_eq_getElem hin]
     simp only [madeCells,Array.getElem_map,Array.getElem_range,hzs,hmod]
     rw [getElem!_pos z.cells j hjz]
     rw [Array.getElem?_eq_getElem hjz] at hvz
     exact hvz
   . have : (List.replicate l.toNat z0).getD k κ.dflt = z0 := by simp [List.getD_eq_getElem?_getD,hk']
     simp only [t6,this,hdz2]
     rw [Bool.and_eq_true,List.all_eq_true,List.all_eq_true] at hz
     exact hollowT (hv2 w.heap Im) (hz.2 dz (List.mem_of_getElem? hdz1)) (hz.1 v (List.mem_of_getElem? hv1)))
 rw [<- e] at key
 exact hn _ _ _ hK ⟨_,_,key⟩
end
end Vg
