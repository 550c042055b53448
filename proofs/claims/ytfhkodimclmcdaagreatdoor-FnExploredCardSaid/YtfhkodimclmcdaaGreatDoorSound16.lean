/- Code. Condition: the table of types is the program's; orders are mixed. -/
import Derived.Test.YtfhkodimclmcdaaGreatDoorDraw
import Derived.Test.YtfhkodimclmcdaaGreatDoorSound15
namespace Vg
open Go
section
variable {P : Program} {τ : Tys} {Im Im' : Nat -> Nat -> Prop} {ρ ρ' ρ2 : Rho} {h h' : Array Obj} {w w' : World}
variable {w0 : World} {G : GP} {Im0 : Nat -> Nat -> Prop} {S : AState} {a : Act} {n : Nat} {tm : Nat -> AV} {blk : Nat -> Option Blk}
variable [hT : Nonempty (TabH w0.heap Im0)]
/-! ### code -/
def AX.toExit : AX -> Exit
 | .normal => .normal
 | .exit i => .exit i
 | .goto l => .goto l
 | .ret => .ret
theorem qg2 (hτ : d6 P τ) (hm : P.follows .mixedOrders = true) : ∀ (c : Code) (S : AState) (K : AX -> AState -> Prop) (Q : Exit -> Act -> World -> Prop) (a : Act) (w : World),yA P τ c S K -> o5 w0 G Im0 S a w ->
 (∀ e S' a' w',K e S' -> o5 w0 G Im0 S' a' w' -> Q e.toExit a' w') -> c.wp P Q a w := by
 intro c
 induction c with
 | skip=>intro S K Q a w h hR hn;exact wp_skip (hn .normal S a w h hR)
 | region id ops draw =>
  intro S K Q a w h hR hn
  cases draw with
  | false =>
   simp only [yA,qng] at h
   exact wp_region_list (lY hτ ops.toList S (K .normal) a w h hR fun S' a' w' hS hR'=>hn .normal S' a' w' hS hR')
  | true =>
   simp only [yA] at h
   cases hd : dR τ ops.toList && cP ops (preLen ops.toList) with
   | false =>
    simp only [hd] at h
    exact qfu hτ hm h hR fun S' a' w' hS hR'=>hn .normal S' a' w' hS hR'
   | true =>
    simp only [hd] at h
    rw [Bool.and_eq_true] at hd
    rcases h with ⟨h⟩|⟨h⟩
    case r=>exact qfu hτ hm h hR fun S' a' w' hS hR'=>hn .normal S' a' w' hS hR'
    exact qnt hτ hm hd.2 h hR fun S' a' w' hS hR'=>hn .normal S' a' w' hS hR'
 | seq x y ihx ihy =>
  intro S K Q a w h hR hn
  refine wp_seq (ihx S _ _ a w (h _ rfl) hR fun e S' a' w' hK hR'=>?_)
  cases e with
  | normal=>exact ihy S' K Q a' w' hK hR' hn
  | exit i=>exact hn (.exit i) S' a' w' hK hR'
  | goto l=>exact hn (.goto l) S' a' w' hK hR'
  | ret=>exact hn .ret S' a' w' hK hR'
 | cond c x y ihx ihy =>
  intro S K Q a w h hR hn
  obtain ⟨ρ,Im,hR0⟩ := hR
  simp only [yA] at h
  split at h
  . rename_i b hb
    have hc := j7 hR0 c
    rw [hb] at hc
    exact wp_cond_split (yJ hc) (fun e=>ihx S K Q a w (h.1 e) ⟨ρ,Im,hR0⟩ hn) (fun e=>ihy S K Q a w (h.2 e) ⟨ρ,Im,hR0⟩ hn)
  . exact h.elim
 | block id c ih =>
  intro S K Q a w h hR hn
  refine wp_block (ih S _ _ a w h hR fun e S' a' w' hK hR'=>?_)
  cases e with
  | normal=>exact hn .normal S' a' w' hK hR'
  | exit i =>
   simp only [AX.toExit,Exit.inBlock]
   cases hb : Nat.beq i id with
   | true =>
    have := Nat.eq_of_beq_eq_true hb
    simp only [hb] at hK
    rw [if_pos this];exact hn .normal S' a' w' hK hR'
   | false =>
    have : i ≠ id := fun e=>by subst e;simp at hb
    simp only [hb] at hK
    rw [if_neg this];exact hn (.exit i) S' a' w' hK hR'
  | goto l=>exact hn (.goto l) S' a' w' hK hR'
  | ret=>exact hn .ret S' a' w' hK hR'
 | loop c ih =>
  intro S K Q a w h hR hn
  obtain ⟨α,St,μ,x,hsub,hround⟩ := h
  intro b kk cs
  have key : ∀ k x a w,μ x = k -> o5 w0 G Im0 (St x) a w ->
   ∃ e a' w',Q e a' w' /\ Arrives P (lone (b.at a (.code c :: .inLoop c :: kk)) cs w) b kk cs e a' w' := by
   intro k
   induction k using Nat.strongRecOn with
   | _ k ihk =>
    intro x a w hk hR
    have h1 := ih (St x) _ (Exit.then (fun a' w'=>∃ y,μ y < k /\ o5 w0 G Im0 (St y) a' w') Q) a w (hround x) hR (fun e S' a' w' hK hR'=>by
     cases e with
     | normal =>
      obtain ⟨y,hy,hs⟩ := hK
      exact ⟨y,by omega,hs _ _ _ _ _ hR'⟩
     | exit i=>exact hn (.exit i) S' a' w' hK hR'
     | goto l=>exact hn (.goto l) S' a' w' hK hR'
     | ret=>exact hn .ret S' a' w' hK hR')
    obtain ⟨e,a₁,w₁,hq,harr⟩ := h1 b (.inLoop c :: kk) cs
    cases e with
    | normal =>
     obtain ⟨y,hy,hRy⟩ := hq
     obtain ⟨e₂,a₂,w₂,hq₂,harr₂⟩ := ihk (μ y) hy y a₁ w₁ rfl hRy
     exact ⟨e₂,a₂,w₂,hq₂,.of_steps (Steps.trans harr (.one step_inLoop)) harr₂⟩
    | exit id=>exact ⟨_,a₁,w₁,hq,.pass (x := .inLoop c) rfl (fun _ _ => .inl (by simp)) harr⟩
    | goto l=>exact ⟨_,a₁,w₁,hq,.pass (x := .inLoop c) rfl (fun _ _ => .inl (by simp)) harr⟩
    | ret=>exact ⟨_,a₁,w₁,hq,.pass (x := .inLoop c) rfl (fun _ _ => .inl (by simp)) harr⟩
    | panic ch=>exact ⟨_,a₁,w₁,hq,.pass (x := .inLoop c) rfl (fun _ _ => .inl (by simp)) harr⟩
    | outgrown=>exact ⟨_,a₁,w₁,hq,.pass (x := .inLoop c) rfl (fun _ _ => .inl (by simp)) harr⟩
  obtain ⟨e,a',w',hq,harr⟩ := key _ x a w rfl (hsub _ _ _ _ _ hR)
  exact ⟨e,a',w',hq,.of_steps (.one step_loop) harr⟩
 | exit i=>intro S K Q a w h hR hn;exact wp_exit (hn (.exit i) S a w h hR)
 | label l=>intro S K Q a w h hR hn;exact wp_label (hn .normal S a w h hR)
 | ret=>intro S K Q a w h hR hn;exact wp_ret (hn .ret S a w h hR)
 | _=>intro S K Q a w h hR hn;exact h.elim
end
def zF (τ : Tys) (S : AState) : List ResultVar -> (List AV -> Prop) -> Prop
 | [],K=>K []
 | .tmp t :: rs,K=>zF τ S rs fun l=>K (S.tm t :: l)
 | .cell a T :: rs,K=>match τ T with
  | some i=>wG i S.blk (S.tm a) fun v=>zF τ S rs fun l=>K (v :: l)
  | none=>False
def oneOrTup : List AV -> AV
 | [v]=>v
 | l => .tup l
def AV.lightC : AV -> Bool
 | .dat d=>d.flat
 | .nils=>true
 | .cell=>true
 | .any=>true
 | .row _=>true
 | .nilm=>true
 | .nilp=>true
 | .mp _=>true
 | .ptr _ _=>true
 | .rptr _ _ _ _=>true
 | _=>false
def AV.lightM : AV -> Bool
 | .agg l=>l.all AV.lightC
 | v=>v.lightC
def AV.light : AV -> Bool
 | .tup l=>l.all AV.lightM
 | v=>v.lightM
def Blk.light : Blk -> Bool
 | .box cells=>cells.all AV.lightC
 | .row _ κ _ _=>κ.flat
 | .tree _ _ _=>true
 | .mp _ _=>true
 | .it _ _ _=>true
def packL (S : AState) (fr : Bool) (R : AV -> List Blk -> Prop) (res : AV) (L : List Nat) : Prop :=
 match xB S.blk L L with
 | some bs=>vA L = true /\ (match fr with|true=>(res.num L).light && bs.all Blk.light|false=>true) = true /\ R (res.num L) bs
 | none=>False
def pack (S : AState) (fr : Bool) (R : AV -> List Blk -> Prop) (res : AV) : Prop :=
 force res fun res=>zL S.blk (addIds res.ids []) fun L=>packL S fr R res L
def bS (τ : Tys) (fn : Func) (fr : Bool) (R : AV -> List Blk -> Prop) (e : AX) (S : AState) : Prop :=
 match e with
 | .normal=>zF τ S fn.results.toList fun vs=>pack S fr R (oneOrTup vs)
 | .ret=>zF τ S fn.results.toList fun vs=>pack S fr R (oneOrTup vs)
 | _=>False
section
variable {P : Program} {τ : Tys} {Im Im' : Nat -> Nat -> Prop} {ρ ρ' ρ2 : Rho} {h h' : Array Obj} {w w' : World}
variable {w0 : World} {G : GP} {Im0 : Nat -> Nat -> Prop} {S : AState} {a : Act} {n : Nat} {tm : Nat -> AV} {blk : Nat -> Option Blk}
theorem K.flat_enc {κ : K} (hf : κ.flat = true) (x : κ.T) (j : Nat) : ((κ.enc x).getD j (.bool false)).flat = true := by
 have all : ∀ d ∈ κ.enc x,d.flat = true := by
  cases κ <;> first|(simp [K.flat] at hf;done)|(intro d hd;simp [K.enc] at hd;rcases hd with rfl|rfl|rfl|rfl <;> rfl)|(intro d hd;simp [K.enc] at hd;subst hd;rfl)
 rw [List.getD_eq_getElem?_getD]
 cases h : (κ.enc x)[j]? with
 | none=>rfl
 | some d=>exact all d (List.mem_of_getElem? h)
theorem AVR.lightC {a : AV} {v : Value} (hf : a.lightC = true) (hr : AVR ρ h Im a v) : AVR ρ h Im' a v := by
 cases hr with
 | dat d v hd=>exact .dat d v (hd.flat hf)
 | nils=>exact .nils
 | cell v hv=>exact .cell v hv
 | any v=>exact .any v
 | row i r hi=>exact .row i r hi
 | rowN i hi=>exact .rowN i hi
 | nilm=>exact .nilm
 | nilp=>exact .nilp
 | mp i r hi=>exact .mp i r hi
 | mpN i hi=>exact .mpN i hi
 | ptr i o r hi=>exact .ptr i o r hi
 | rptr i k j sz r hi=>exact .rptr i k j sz r hi
 | _=>simp [AV.lightC] at hf
theorem AVR.lightM {a : AV} {v : Value} (hf : a.lightM = true) (hr : AVR ρ h Im a v) : AVR ρ h Im' a v := by
 cases hr with
 | agg l cs cf hl hcf hr =>
  simp only [AV.lightM,List.all_eq_true] at hf
  exact .agg l cs cf hl hcf (fun j a ha=>(hr j a ha).lightC (hf a (List.mem_of_getElem? ha)))
 | dat d v hd=>exact .dat d v (hd.flat hf)
 | nils=>exact .nils
 | cell v hv=>exact .cell v hv
 | any v=>exact .any v
 | row i r hi=>exact .row i r hi
 | rowN i hi=>exact .rowN i hi
 | nilm=>exact .nilm
 | nilp=>exact .nilp
 | mp i r hi=>exact .mp i r hi
 | mpN i hi=>exact .mpN i hi
 | ptr i o r hi=>exact .ptr i o r hi
 | rptr i k j sz r hi=>exact .rptr i k j sz r hi
 | _=>simp [AV.lightM,AV.lightC] at hf
theorem AVR.light {a : AV} {v : Value} (hf : a.light = true) (hr : AVR ρ h Im a v) : AVR ρ h Im' a v := by
 cases hr with
 | tup l cs cf hl hcf hr =>
  simp only [AV.light,List.all_eq_true] at hf
  exact .tup l cs cf hl hcf (fun j a ha=>(hr j a ha).lightM (hf a (List.mem_of_getElem? ha)))
 | agg l cs cf hl hcf hr=>exact (AVR.agg l cs cf hl hcf hr).lightM hf
 | dat d v hd=>exact .dat d v (hd.flat hf)
 | nils=>exact .nils
 | cell v hv=>exact .cell v hv
 | any v=>exact .any v
 | row i r hi=>exact .row i r hi
 | rowN i hi=>exact .rowN i hi
 | nilm=>exact .nilm
 | nilp=>exact .nilp
 | mp i r hi=>exact .mp i r hi
 | mpN i hi=>exact .mpN i hi
 | ptr i o r hi=>exact .ptr i o r hi
 | rptr i k j sz r hi=>exact .rptr i k j sz r hi
 | _=>simp [AV.light,AV.lightM,AV.lightC] at hf
theorem BlkR.light {i : Nat} {b : Blk} (hf : b.light = true) (hB : BlkR ρ h Im i b) : BlkR ρ h Im' i b := by
 cases b with
 | box cells =>
  obtain ⟨r,cs,T,hr,hh,hsz,hcs⟩ := hB
  refine ⟨r,cs,T,hr,hh,hsz,fun j x hx=>?_⟩
  obtain ⟨c,h1,h2⟩ := hcs j x hx
  simp only [Blk.light,List.all_eq_true] at hf
  exact ⟨c,h1,h2.lightC (hf x (List.mem_of_getElem? hx))⟩
 | row T κ l sh =>
  simp only [BlkR] at hB ⊢
  cases hr : ρ i with
  | none=>rw [hr] at hB;exact hB
  | some r =>
   rw [hr] at hB
   obtain ⟨h1,h2,h3,cs,T0,hh,hsz,hcs⟩ := hB
   exact ⟨h1,h2,h3,cs,T0,hh,hsz,fun k j hk hj=>let ⟨c,hc1,hc2⟩ := hcs k j hk hj;⟨c,hc1,hc2.flat (K.flat_enc hf _ _)⟩⟩
 | tree T κ l=>exact hB
 | mp l z=>exact hB
 | it l n z=>exact hB
def resGet (tmps : Array Value) : ResultVar -> Sem Value
 | .tmp t=>pure (tmps.getD t undef)
 | .cell x T=>do loadVar T (<- asAddr (tmps.getD x undef))
def valOf : List Value -> Value
 | [v]=>v
 | vs => .tuple vs.toArray
theorem xS (hτ : d6 P τ) (hR : Rel w0 G Im0 S ρ Im a w) : ∀ (rs : List ResultVar) (K : List AV -> Prop),zF τ S rs K ->
 ∃ (l : List AV) (vs : List Value),K l /\ (rs.mapM (resGet a.tmps)).run P w = .ok vs w /\
  vs.length = l.length /\ ∀ j x,l[j]? = some x -> AVR ρ w.heap Im x (vs.getD j undef)
 | [],K,h=>⟨[],[],h,by simp,rfl,by simp⟩
 | .tmp t :: rs,K,h=>by
  simp only [zF] at h
  obtain ⟨l,vs,hK,hr,hl,hv⟩ := xS hτ hR rs _ h
  refine ⟨_,a.tmps.getD t undef :: vs,hK, ?_,by simp [hl],fun j x hx=>?_⟩
  . rw [List.mapM_cons]
    simp only [Sem.run_bind,resGet,Sem.run_pure,Result.andThen_ok,hr]
  cases j with
  | zero=>simp at hx;subst hx;exact hR.tm t
  | succ j=>simp at hx;simpa using hv j x hx
 | .cell y T :: rs,K,h=>by
  simp only [zF] at h
  cases hT : τ T with
  | none=>simp [hT] at h
  | some i =>
   simp only [hT] at h
   have hp := hR.tm y
   obtain ⟨av,h1,_,u,hu,hav⟩ := qhj (hτ T i hT) hR.env hp h
   obtain ⟨l,vs,hK,hr,hl,hv⟩ := xS hτ hR rs _ h1
   have hrun : ((asAddr (a.tmps.getD y undef)).run P w).andThen (fun x w'=>(loadVar T x).run P w') = .ok u w := by
    revert hu
    generalize a.tmps.getD y undef = vv
    intro hu
    simp only [Instr.loadAt,Sem.run_bind] at hu
    cases vv with
    | pointer p =>
     cases p with
     | some p=>exact hu
     | none=>simp [Instr.sureAddr] at hu
    | _=>simp [Instr.sureAddr] at hu
   refine ⟨_,u :: vs,hK, ?_,by simp [hl],fun j x hx=>?_⟩
   . rw [List.mapM_cons]
     simp only [Sem.run_bind,resGet,hrun,Result.andThen_ok,hr,Sem.run_pure]
   . cases j with
     | zero=>simp at hx;subst hx;exact hav
     | succ j=>simp at hx;simpa using hv j x hx
theorem qbr {fn : Func} {tmps : Array Value} {vs : List Value} (h : (fn.results.toList.mapM (resGet tmps)).run P w = .ok vs w) : (results fn tmps).run P w = .ok (valOf vs) w := by
 have e : results fn tmps = (do let vs <- fn.results.mapM (resGet tmps);pure (if h : vs.size = 1 then vs[0] else .tuple vs)) := by
  unfold results
  congr 1
 rw [e,Array.mapM_eq_mapM_toList]
 simp only [Sem.run_bind,Sem.run_map,h,Result.andThen_ok,Sem.run_pure]
 cases vs with
 | nil=>rfl
 | cons v vs=>cases vs with
  | nil=>rfl
  | cons u vs=>rfl
theorem qb6 {l : List AV} {vs : List Value} (hl : vs.length = l.length) (hv : ∀ j x,l[j]? = some x -> AVR ρ h Im x (vs.getD j undef)) :
 AVR ρ h Im (oneOrTup l) (valOf vs) := by
 have tup : AVR ρ h Im (.tup l) (.tuple vs.toArray) := by
  refine .tup l _ (fun j=>vs.getD j undef) (by simpa using hl) (fun j hj=>?_) hv
  have : j < vs.length := by omega
  simp [List.getD_eq_getElem?_getD,this]
 match l,vs,hl with
 | [x],[v],_=>exact hv 0 x rfl
 | [],[],_=>exact tup
 | x :: y :: l,v :: u :: vs,_=>exact tup
theorem CallsF.of_awp (hτ : d6 P τ) (hm : P.follows .mixedOrders = true) {f : FuncId} {fn : Func} {c : Code} {args : List AV} {fr : Bool} {R : AV -> List Blk -> Prop} (hf : P.funcs[f]? = some fn) (hname : (fn.name == "runtime.NumGoroutine") = false)
 (hb : fn.body = some c) (hn : Nat.ble args.length fn.ntmps = true)
 (h : yA P τ c ⟨fn.ntmps,fun t=>args.getD t .any,fun _=>none⟩ (bS τ fn fr R)) : CallsF P f args fr R := by
 refine ⟨⟨fn,hf,hname,by rw [hb];rfl⟩,fun w Im vs hsz hargs him=>?_⟩
 have hT : Nonempty (TabH w.heap Im) := ⟨him.tab⟩
 refine calls_of_wp hf hb ?_
 have hn' := Nat.le_of_ble_eq_true hn
 have hR : Rel w .nil Im ⟨fn.ntmps,fun t=>args.getD t .any,fun _=>none⟩ (fun _=>none) Im { tmps := vs ++ Array.replicate (fn.ntmps - vs.size) undef,defers := [] } w := by
  refine ⟨rfl,by simp [hsz];omega,fun t=>?_,⟨fun i b hi=>(by cases hi),fun i j r s x hi=>absurd rfl hi,fun i r hi=>absurd rfl hi,fun i r x hi=>absurd rfl hi,fun i r x o hi=>absurd rfl hi,him.lt,fun i b r o hi=>(by cases hi)⟩,
   ⟨fun i r x hi=>absurd rfl hi,fun _ _ x=>x,fun _ _ x => .inl x,fun _ _ _=>rfl,fun _ _ _=>rfl,Nat.le_refl _,rfl,rfl,rfl,fun _ _ h=>by cases h⟩⟩
  by_cases ht : t < args.length
  . have h1 := hargs t _ (List.getElem?_eq_getElem ht)
    have h2 : t < vs.size := by omega
    simp only [List.getD_eq_getElem?_getD,List.getElem?_eq_getElem ht,Option.getD_some,Array.getD_eq_getD_getElem?,Array.getElem?_append_left h2]
    rwa [Array.getD_eq_getD_getElem?] at h1
  . have e : args.getD t .any = .any := by rw [List.getD_eq_getElem?_getD,List.getElem?_eq_none omG];rfl
    simp only [e];exact .any _
 refine qg2 (w0 := w) (G := .nil) (Im0 := Im) hτ hm c _ _ _ _ w h ⟨_,_,hR⟩ fun e S' a' w' hpost hRE=>?_
 obtain ⟨ρ',Im',hR'⟩ := hRE
 have main : zF τ S' fn.results.toList (fun vs=>pack S' fr R (oneOrTup vs)) -> a'.defers = [] /\ ∃ v,(results fn a'.tmps).run P w' = .ok v w' /\
  ∃ v' res B' ρ' Im',Ending.returned v = .returned v' /\ R res B' /\ AVR ρ' w'.heap Im' res v' /\ Env (fun j=>B'[j]?) ρ' Im' w'.heap /\
   Ext w .nil (gO Im fr) (fun j=>B'[j]?) ρ' Im' w' := by
  intro har
  obtain ⟨l,us,hpk,hrun,hl,hv⟩ := xS hτ hR' fn.results.toList _ har
  refine ⟨hR'.defers,_,qbr hrun, ?_⟩
  have hres := qb6 hl hv
  generalize oneOrTup l = res at hpk hres
  unfold pack at hpk
  rw [gE,uO] at hpk
  unfold packL at hpk
  generalize nextIds S'.blk (nextIds S'.blk (addIds res.ids [])) = L at hpk
  cases hbs : xB S'.blk L L with
  | none=>simp [hbs] at hpk
  | some bs =>
   simp only [hbs] at hpk
   obtain ⟨hnd,hlight,hRR⟩ := hpk
   obtain ⟨hbl,hbspec⟩ := oM hbs
   have hnd' := mJ hnd
   have hE : Env (fun j=>bs[j]?) (x6 ρ' L) Im' w'.heap := bR hbs hnd hR'.env
   have hown : ∀ i r x,bs[i]? ≠ none -> x6 ρ' L i = some r -> r.has x -> w.heap.size <= x := by
    intro j r x hj hr hx
    have hjl : j < L.length := by
     by_cases hlt : j < bs.length
     . omega
     . exact absurd (List.getElem?_eq_none (Nat.le_of_not_lt hlt)) hj
    obtain ⟨b',h1,_⟩ := hbspec j _ (List.getElem?_eq_getElem hjl)
    have : x6 ρ' L j = ρ' L[j] := by simp [x6,List.getElem?_eq_getElem hjl]
    rw [this] at hr
    exact (hR'.ext.own _ r x (by simp [h1]) hr hx).elim (fun h=>h.elim) id
   cases fr with
   | false =>
    exact ⟨_,res.num L,bs,x6 ρ' L,Im',rfl,hRR,hres.num,hE,⟨fun i r x hi hr hx => .inr (hown i r x hi hr hx),hR'.ext.im0,hR'.ext.imNew,hR'.ext.keep,hR'.ext.frame,hR'.ext.grow,hR'.ext.os,hR'.ext.tape,hR'.ext.output,fun _ _ h=>by cases h⟩⟩
   | true =>
    simp only [Bool.and_eq_true,List.all_eq_true] at hlight
    refine ⟨_,res.num L,bs,x6 ρ' L,fun b o=>Im' b o /\ w.heap.size <= b,rfl,hRR,(hres.num (l := L)).light hlight.1, ?_,⟨fun i r x hi hr hx => .inr (hown i r x hi hr hx),fun _ _ h=>h.elim,fun _ _ h => .inr (.inr h.2),fun _ _ h=>h.elim,hR'.ext.frame,hR'.ext.grow,hR'.ext.os,hR'.ext.tape,hR'.ext.output,fun _ _ h=>by cases h⟩⟩
    refine ⟨fun j b hj=>(hE.bl j b hj).light (hlight.2 b (List.mem_of_getElem? hj)),hE.inj,hE.fpNe,hE.fpLt,fun j r x o hj hr hx h=>hE.fpIm j r x o hj hr hx h.1,fun b o h=>hE.imlt b o h.1,fun j b r o hj hr=>?_⟩
    rw [<- hE.imOwn j b r o hj hr]
    exact ⟨And.left,fun h=>⟨h,hown j r r.b (by simp [hj]) hr (.inl rfl)⟩⟩
 cases e with
 | normal=>exact main hpost
 | ret=>exact main hpost
 | exit i=>exact hpost.elim
 | goto l=>exact hpost.elim
/-! ### contracts of functions that are given blocks -/
def packG (S : AState) (_ : Nat) (R : AV -> List Blk -> Prop) (res : AV) (L : List Nat) : Prop :=
 match vA L with
 | true=>match xB S.blk L L with
  | some bs=>forceBs bs fun bs=>force (res.num L) fun res=>R res bs
  | none=>False
 | false=>False
def uQ (S : AState) (k : Nat) (R : AV -> List Blk -> Prop) (res : AV) : Prop :=
 force res fun res=>zL S.blk (addIds res.ids (upTo 900000 k)) fun L=>packG S k R res L
def gpost (τ : Tys) (fn : Func) (k : Nat) (R : AV -> List Blk -> Prop) (e : AX) (S : AState) : Prop :=
 match e with
 | .normal=>zF τ S fn.results.toList fun vs=>uQ S k R (oneOrTup vs)
 | .ret=>zF τ S fn.results.toList fun vs=>uQ S k R (oneOrTup vs)
 | _=>False
def dK (Bg : List Blk) : Nat -> Option Blk := fun i=>match Nat.ble 900000 i with
 | true=>match Bg[i - 900000]? with
  | some b=>some (b.ren Bg.length 900000)
  | none=>none
 | false=>none
theorem gT : ∀ (l acc : List Nat),∃ m,addIds l acc = acc ++ m
 | [],acc=>⟨[],by simp [addIds]⟩
 | i :: l,acc=>by
  simp only [addIds]
  split
  . exact gT l acc
  . obtain ⟨m,hm⟩ := gT l (acc ++ [i])
    exact ⟨i :: m,by rw [hm];simp⟩
theorem qci (blk : Nat -> Option Blk) (l : List Nat) : ∃ m,nextIds blk l = l ++ m := gT _ _
theorem CallsG.of_awp (hτ : d6 P τ) (hm : P.follows .mixedOrders = true) {f : FuncId} {fn : Func} {c : Code} {args : List AV} {Bg : List Blk} {k : Nat} {R : AV -> List Blk -> Prop} (hf : P.funcs[f]? = some fn) (hname : (fn.name == "runtime.NumGoroutine") = false)
 (hb : fn.body = some c) (hn : (Nat.ble args.length fn.ntmps && Nat.ble k Bg.length) = true)
 (h : yA P τ c ⟨fn.ntmps,fun t=>(args.getD t .any).ren Bg.length 900000,dK Bg⟩ (gpost τ fn k R)) : CallsG P f args Bg k R := by
 refine ⟨⟨fn,hf,hname,by rw [hb];rfl⟩,fun w Im ρ vs hsz hargs hE hT0=>?_⟩
 have hT : Nonempty (TabH w.heap Im) := ⟨hT0⟩
 refine calls_of_wp hf hb ?_
 simp only [Bool.and_eq_true] at hn
 have hn' := Nat.le_of_ble_eq_true hn.1
 have hk' := Nat.le_of_ble_eq_true hn.2
 obtain ⟨ρ0,hρ0⟩ : ∃ ρ0 : Rho,ρ0 = fun i=>if 900000 <= i /\ i < 900000 + Bg.length then ρ (i - 900000) else none := ⟨_,rfl⟩
 have hρ : ∀ j,j < Bg.length -> ρ0 (900000 + j) = ρ j := fun j hj=>by subst hρ0;simp [hj]
 have hblk : ∀ {i b},dK Bg i = some b -> ∃ j b',i = 900000 + j /\ j < Bg.length /\ Bg[j]? = some b' /\ b = b'.ren Bg.length 900000 := fun {i b} hi=>by
  unfold dK at hi
  cases hle : Nat.ble 900000 i with
  | false=>simp [hle] at hi
  | true =>
   simp only [hle] at hi
   have := Nat.le_of_ble_eq_true hle
   cases hg : Bg[i - 900000]? with
   | none=>simp [hg] at hi
   | some b' =>
    simp only [hg,Option.some.injEq] at hi
    exact ⟨i - 900000,b',by omega,(List.getElem?_eq_some_iff.1 hg).1,hg,hi.symm⟩
 obtain ⟨G,hG⟩ : ∃ G : GP,G = ⟨fun b=>∃ j r,j < Bg.length /\ ρ j = some r /\ r.has b,fun i=>if 900000 <= i /\ i < 900000 + Bg.length then some (ρ (i - 900000)) else none,fun i hi=>if_neg omG⟩ := ⟨_,rfl⟩
 have hE0 : Env (dK Bg) ρ0 Im w.heap := by
  have get : ∀ {i r},dK Bg i ≠ none -> ρ0 i = some r -> ∃ j,i = 900000 + j /\ Bg[j]? ≠ none /\ ρ j = some r := fun {i r} hi hr=>by
   have ⟨bi,hbi⟩ := Option.ne_none_iff_exists'.1 hi
   obtain ⟨i',bi',rfl,hi',hbi',_⟩ := hblk hbi
   rw [hρ _ hi'] at hr
   exact ⟨i',rfl,by simp [hbi'],hr⟩
  refine ⟨fun i b hi=>?_,fun i j r s x hi hj hr hs hx hy=>?_,fun i r hi hr=>?_,fun i r x hi hr hx=>?_,fun i r x o hi hr hx=>?_,hE.imlt,fun i b r o hi hr=>?_⟩
  . obtain ⟨j,b',rfl,hj,hb',rfl⟩ := hblk hi
    exact (hE.bl j b' hb').ren hρ hj
  . obtain ⟨i',rfl,h1,h2⟩ := get hi hr
    obtain ⟨j',rfl,h3,h4⟩ := get hj hs
    rw [hE.inj i' j' r s x h1 h3 h2 h4 hx hy]
  . obtain ⟨i',rfl,h1,h2⟩ := get hi hr
    exact hE.fpNe i' r h1 h2
  . obtain ⟨i',rfl,h1,h2⟩ := get hi hr
    exact hE.fpLt i' r x h1 h2 hx
  . obtain ⟨i',rfl,h1,h2⟩ := get hi hr
    exact hE.fpIm i' r x o h1 h2 hx
  . obtain ⟨j,b',rfl,hj,hb',rfl⟩ := hblk hi
    rw [hρ _ hj] at hr
    rw [Blk.ren_pinned]
    exact hE.imOwn j b' r o hb' hr
 have hR : Rel w G Im ⟨fn.ntmps,fun t=>(args.getD t .any).ren Bg.length 900000,dK Bg⟩ ρ0 Im { tmps := vs ++ Array.replicate (fn.ntmps - vs.size) undef,defers := [] } w := by
  refine ⟨rfl,by simp [hsz];omega,fun t=>?_,hE0,⟨fun i r x hi hr hx => .inl ?_,fun _ _ x=>x,fun _ _ x => .inl x,fun _ _ _=>rfl,fun _ _ _=>rfl,Nat.le_refl _,rfl,rfl,rfl,fun i p hp hi=>?_⟩⟩
  . by_cases ht : t < args.length
    . have h1 := hargs t _ (List.getElem?_eq_getElem ht)
      have h2 : t < vs.size := by omega
      simp only [List.getD_eq_getElem?_getD,List.getElem?_eq_getElem ht,Option.getD_some,Array.getD_eq_getD_getElem?,Array.getElem?_append_left h2]
      rw [Array.getD_eq_getD_getElem?] at h1
      exact h1.ren hρ
    . have e : args.getD t .any = .any := by rw [List.getD_eq_getElem?_getD,List.getElem?_eq_none omG];rfl
      simp only [e];exact .any _
  . have ⟨bi,hbi⟩ := Option.ne_none_iff_exists'.1 hi
    obtain ⟨i',bi',rfl,hi',hbi',_⟩ := hblk hbi
    rw [hρ _ hi'] at hr
    subst hG
    exact ⟨i',r,hi',hr,hx⟩
  . subst hG
    simp only at hp
    split at hp
    . rename_i hin
      cases hp
      subst hρ0
      simp [hin]
    . cases hp
 refine qg2 (w0 := w) (G := G) (Im0 := Im) hτ hm c _ _ _ _ w h ⟨_,_,hR⟩ fun e S' a' w' hpost hRE=>?_
 obtain ⟨ρ',Im',hR'⟩ := hRE
 have main : zF τ S' fn.results.toList (fun vs=>uQ S' k R (oneOrTup vs)) -> a'.defers = [] /\ ∃ v,(results fn a'.tmps).run P w' = .ok v w' /\
  ∃ v' res B' ρ' Im',Ending.returned v = .returned v' /\ R res B' /\ AVR ρ' w'.heap Im' res v' /\ Env (fun j=>B'[j]?) ρ' Im' w'.heap /\
   (∀ j,j < k -> j < B'.length /\ ρ' j = ρ j) /\ Ext w (.of Bg.length ρ) Im (fun j=>B'[j]?) ρ' Im' w' := by
  intro har
  obtain ⟨l,us,hpk,hrun,hl,hv⟩ := xS hτ hR' fn.results.toList _ har
  refine ⟨hR'.defers,_,qbr hrun, ?_⟩
  have hres := qb6 hl hv
  generalize oneOrTup l = res at hpk hres
  unfold uQ at hpk
  rw [gE,uO] at hpk
  unfold packG at hpk
  have hpre : ∀ j,j < k -> (nextIds S'.blk (nextIds S'.blk (addIds res.ids (upTo 900000 k))))[j]? = some (900000 + j) := fun j hj=>by
   obtain ⟨m1,e1⟩ := gT res.ids (upTo 900000 k)
   obtain ⟨m2,e2⟩ := qci S'.blk (addIds res.ids (upTo 900000 k))
   obtain ⟨m3,e3⟩ := qci S'.blk (nextIds S'.blk (addIds res.ids (upTo 900000 k)))
   have hu := sP k 900000
   rw [e3,e2,e1,List.append_assoc,List.append_assoc,List.getElem?_append_left omG]
   exact hu.2 j hj
  generalize nextIds S'.blk (nextIds S'.blk (addIds res.ids (upTo 900000 k))) = L at hpk hpre
  cases hnd : vA L with
  | false=>simp [hnd] at hpk
  | true =>
  simp only [hnd] at hpk
  cases hbs : xB S'.blk L L with
  | none=>simp [hbs] at hpk
  | some bs =>
   simp only [hbs,wO,gE] at hpk
   obtain ⟨hbl,hbspec⟩ := oM hbs
   have hE' := bR hbs hnd hR'.env
   have hGi : ∀ b,G b = (GP.of Bg.length ρ) b := fun b=>by subst hG;rfl
   refine ⟨_,res.num L,bs,x6 ρ' L,Im',rfl,hpk,hres.num,hE',fun j hj=>?_,⟨fun j r x hj hr hx=>?_,hR'.ext.im0,fun b o h=>by rw [<- hGi];exact hR'.ext.imNew b o h,hR'.ext.keep,fun b hb hnG=>hR'.ext.frame b hb (by rw [hGi];exact hnG),hR'.ext.grow,hR'.ext.os,hR'.ext.tape,hR'.ext.output,fun _ _ h=>by cases h⟩⟩
   . have h1 := hpre j hj
     have hjl : j < L.length := (List.getElem?_eq_some_iff.1 h1).1
     refine ⟨by omega, ?_⟩
     obtain ⟨b',h2,_⟩ := hbspec j _ h1
     have e : x6 ρ' L j = ρ' (900000 + j) := by simp [x6,h1]
     rw [e]
     refine hR'.ext.pin (900000 + j) (ρ j) ?_ (by simp [h2])
     subst hG
     simp;omega
   . have hjl : j < L.length := by
      by_cases hlt : j < bs.length
      . omega
      . exact absurd (List.getElem?_eq_none (Nat.le_of_not_lt hlt)) hj
     obtain ⟨b',h1,_⟩ := hbspec j _ (List.getElem?_eq_getElem hjl)
     have : x6 ρ' L j = ρ' L[j] := by simp [x6,List.getElem?_eq_getElem hjl]
     rw [this] at hr
     rw [<- hGi]
     exact hR'.ext.own _ r x (by simp [h1]) hr hx
 cases e with
 | normal=>exact main hpost
 | ret=>exact main hpost
 | exit i=>exact hpost.elim
 | goto l=>exact hpost.elim
end
def lL : List (Nat × AV) -> Nat -> AV
 | [],_ => .any
 | (s,v) :: l,t=>match Nat.beq s t with|true=>v|false=>lL l t
def oJ : List (Nat × Blk) -> Nat -> Option Blk
 | [],_=>none
 | (s,b) :: l,t=>match Nat.beq s t with|true=>some b|false=>oJ l t
def x5 (n : Nat) (ts : List (Nat × AV)) (bs : List (Nat × Blk)) : AState := ⟨n,fun t=>lL ts t,fun i=>oJ bs i⟩
def m8 : List (Nat × Option Nat) -> Nat -> Option (Option Nat)
 | [],_=>none
 | (s,b) :: l,t=>match Nat.beq s t with|true=>some b|false=>m8 l t
def zG : List (Nat × Option Nat) -> List Nat
 | []=>[]
 | (_,some i) :: l=>i :: zG l
 | (_,none) :: l=>zG l
def zK : List (Nat × Option Nat) -> Bool
 | []=>true
 | (s,b) :: l=>match Nat.blt s 900000 with
  | true=>zK l
  | false=>match b with
   | some i=>match Nat.beq s i with
    | true=>zK l
    | false=>false
   | none=>false
def wkC (σ : List (Nat × Option Nat)) (v' v : AV) : Prop :=
 match v' with
 | .any=>True
 | .cell=>v.oneC = true
 | .dat d'=>match v with
  | .dat d=>d' = d
  | .nils=>match d' with
   | .seq _ l=>l.length = 0
   | _=>False
  | _=>False
 | .nils=>match v with
  | .nils=>True
  | _=>False
 | .row i'=>match v with
  | .row i=>m8 σ i' = some (some i)
  | .nils=>m8 σ i' = some none
  | _=>False
 | .nilm=>match v with
  | .nilm=>True
  | _=>False
 | .nilp=>match v with
  | .nilp=>True
  | _=>False
 | .mp i'=>match v with
  | .mp i=>m8 σ i' = some (some i)
  | .nilm=>m8 σ i' = some none
  | _=>False
 | .ptr i' o'=>match v with
  | .ptr i o=>m8 σ i' = some (some i) /\ o' = o
  | _=>False
 | .rptr i' k' j' s'=>match v with
  | .rptr i k j s=>m8 σ i' = some (some i) /\ k' = k /\ j' = j /\ s' = s
  | _=>False
 | .eptr κ' x' j'=>match v with
  | .eptr κ x j=>(⟨κ',x'⟩ : Sigma K.T) = ⟨κ,x⟩ /\ j' = j
  | _=>False
 | _=>False
def wkL (σ : List (Nat × Option Nat)) : List AV -> List AV -> Prop
 | [],[]=>True
 | v' :: l',v :: l=>wkC σ v' v /\ wkL σ l' l
 | _,_=>False
def wk (σ : List (Nat × Option Nat)) (v' v : AV) : Prop :=
 match v' with
 | .agg l'=>match v with
  | .agg l=>wkL σ l' l
  | _=>False
 | .fn f' l'=>match v with
  | .fn f l=>f' = f /\ wkL σ l' l
  | _=>False
 | v'=>wkC σ v' v
def wkB (σ : List (Nat × Option Nat)) (blk : Nat -> Option Blk) (i' : Nat) (b' : Blk) : Prop :=
 match b' with
 | .box cells'=>match m8 σ i' with
  | some (some i)=>match blk i with
   | some (.box cells)=>wkL σ cells' cells
   | _=>False
  | _=>False
 | .row T' κ' l' sh'=>match m8 σ i' with
  | some (some i)=>match blk i with
   | some (.row T κ l sh)=>(T' = T /\ sh' = sh) /\ (⟨κ',l'⟩ : (κ : K) × List κ.T) = ⟨κ,l⟩
   | _=>False
  | some none=>l'.length = 0
  | none=>False
 | .tree T' κ' l'=>match m8 σ i' with
  | some (some i)=>match blk i with
   | some (.tree T κ l)=>T' = T /\ (⟨κ',l'⟩ : (κ : K) × List κ.T) = ⟨κ,l⟩
   | _=>False
  | some none=>l'.length = 0
  | none=>False
 | .mp l' z'=>match m8 σ i' with
  | some (some i)=>match blk i with
   | some (.mp l z)=>l' = l /\ z' = z
   | _=>False
  | some none=>z' = true /\ l' = []
  | none=>False
 | .it l' n' z'=>match m8 σ i' with
  | some (some i)=>match blk i with
   | some (.it l n z)=>l' = l /\ n' = n /\ z' = z
   | _=>False
  | _=>False
def wkT (σ : List (Nat × Option Nat)) (tm : Nat -> AV) : List (Nat × AV) -> Prop
 | []=>True
 | (t,v') :: l=>wk σ v' (tm t) /\ wkT σ tm l
def wkBs (σ : List (Nat × Option Nat)) (blk : Nat -> Option Blk) : List (Nat × Blk) -> Prop
 | []=>True
 | (i',b') :: l=>wkB σ blk i' b' /\ wkBs σ blk l
def SubP (σ : List (Nat × Option Nat)) (n : Nat) (ts : List (Nat × AV)) (bs : List (Nat × Blk)) (S : AState) : Prop :=
 match S with
 | ⟨m,tm,blk⟩=>(Nat.beq n m = true /\ vA (zG σ) = true /\ zK σ = true) /\ wkT σ tm ts /\ wkBs σ blk bs
def fE (B : List Blk) (y x : AV) : Prop :=
 match y with
 | .any=>True
 | .cell=>x.oneC = true
 | .dat d'=>match x with
  | .dat d=>d' = d
  | .nils=>match d' with
   | .seq _ l=>l.length = 0
   | _=>False
  | .row i=>match B[i]? with
   | some (.row _ κ l _)=>d' = .seq κ l
   | some (.tree _ κ l)=>d' = .seq κ l
   | _=>False
  | _=>False
 | .nils=>match x with
  | .nils=>True
  | _=>False
 | .eptr κ' x' j'=>match x with
  | .eptr κ x j=>(⟨κ',x'⟩ : Sigma K.T) = ⟨κ,x⟩ /\ j' = j
  | _=>False
 | _=>False
def oI (B : List Blk) : List AV -> List AV -> Prop
 | [],[]=>True
 | y :: l',x :: l=>fE B y x /\ oI B l' l
 | _,_=>False
def frzM (B : List Blk) (y x : AV) : Prop :=
 match y with
 | .agg l'=>match x with
  | .agg l=>oI B l' l
  | _=>False
 | y=>fE B y x
def iX (B : List Blk) : List AV -> List AV -> Prop
 | [],[]=>True
 | y :: l',x :: l=>frzM B y x /\ iX B l' l
 | _,_=>False
def frz (B : List Blk) (y x : AV) : Prop :=
 match y with
 | .tup l'=>match x with
  | .tup l=>iX B l' l
  | _=>False
 | y=>frzM B y x
section
variable {P : Program} {τ : Tys} {Im Im' : Nat -> Nat -> Prop} {ρ ρ' ρ2 : Rho} {h h' : Array Obj} {w w' : World}
variable {w0 : World} {G : GP} {Im0 : Nat -> Nat -> Prop} {S : AState} {a : Act} {n : Nat} {tm : Nat -> AV} {blk : Nat -> Option Blk}
def subR (ρ : Rho) (σ : List (Nat × Option Nat)) : Rho := fun i'=>match m8 σ i' with
 | some (some i)=>ρ i
 | _=>none
theorem qkh {σ : List (Nat × Option Nat)} {i : Nat} (hp : zK σ = true) (hi : ¬ i < 900000) : ∀ _ : Option Nat,m8 σ i ≠ some none /\ ∀ j,m8 σ i = some (some j) -> j = i := by
 induction σ with
 | nil=>exact fun _=>⟨fun h=>by simp [m8] at h,fun j h=>by simp [m8] at h⟩
 | cons x l ih =>
  obtain ⟨s,b⟩ := x
  simp only [zK] at hp
  have ih' : zK l = true -> s ≠ i -> ∀ o : Option Nat,m8 ((s,b) :: l) i ≠ some none /\ ∀ j,m8 ((s,b) :: l) i = some (some j) -> j = i := fun h hne=>by
   have : Nat.beq s i = false := by cases hb : Nat.beq s i with|false=>rfl|true=>exact absurd (Nat.eq_of_beq_eq_true hb) hne
   simp only [m8,this];exact ih h
  cases hs : Nat.blt s 900000 with
  | true =>
   simp only [hs] at hp
   exact ih' hp (fun e=>by subst e;exact hi (blt_lt hs))
  | false =>
   simp only [hs] at hp
   cases b with
   | none=>simp at hp
   | some k =>
    simp only at hp
    cases hk : Nat.beq s k with
    | false=>simp [hk] at hp
    | true =>
     simp only [hk] at hp
     have hsk := Nat.eq_of_beq_eq_true hk
     subst hsk
     by_cases hne : s = i
     . subst hne
       intro _
       simp [m8]
     . exact ih' hp hne
theorem pP {σ : List (Nat × Option Nat)} {v' v : AV} {u : Value} (hw : wkC σ v' v) (hr : AVR ρ h Im v u) : AVR (subR ρ σ) h Im v' u := by
 unfold wkC at hw
 split at hw
 . exact .any _
 . exact .cell _ (AVR.one hw hr)
 . split at hw
   . subst hw;cases hr with|dat d v hd=>exact .dat _ _ hd
   . split at hw
     . cases hr;exact .dat _ _ (.empty _ _ hw _ _)
     . exact hw.elim
   . exact hw.elim
 . split at hw
   . cases hr;exact .nils
   . exact hw.elim
 . split at hw
   . cases hr with
     | row i r hi=>exact .row _ r (by simp [subR,hw,hi])
     | rowN i hi=>exact .rowN _ (by simp [subR,hw,hi])
   . cases hr;exact .rowN _ (by simp [subR,hw])
   . exact hw.elim
 . split at hw
   . cases hr;exact .nilm
   . exact hw.elim
 . split at hw
   . cases hr;exact .nilp
   . exact hw.elim
 . split at hw
   . cases hr with
     | mp i r hi=>exact .mp _ r (by simp [subR,hw,hi])
     | mpN i hi=>exact .mpN _ (by simp [subR,hw,hi])
   . cases hr;exact .mpN _ (by simp [subR,hw])
   . exact hw.elim
 . split at hw
   . obtain ⟨h1,rfl⟩ := hw
     cases hr with|ptr i o r hi=>exact .ptr _ _ r (by simp [subR,h1,hi])
   . exact hw.elim
 . split at hw
   . obtain ⟨h1,rfl,rfl,rfl⟩ := hw
     cases hr with|rptr i k j s r hi=>exact .rptr _ _ _ _ r (by simp [subR,h1,hi])
   . exact hw.elim
 . split at hw
   . obtain ⟨h1,rfl⟩ := hw
     cases h1
     cases hr with|eptr κ x j b o cf him hc hr=>exact .eptr _ _ _ b o cf him hc hr
   . exact hw.elim
 . exact hw.elim
theorem oP {σ : List (Nat × Option Nat)} : ∀ {l' l : List AV},wkL σ l' l -> l'.length = l.length /\ ∀ (j : Nat) (a' : AV),l'[j]? = some a' -> ∃ a,l[j]? = some a /\ wkC σ a' a
 | [],[],_=>⟨rfl,fun j a ha=>by simp at ha⟩
 | v' :: l',v :: l,hw=>by
  obtain ⟨h1,h2⟩ := hw
  obtain ⟨h3,h4⟩ := oP h2
  refine ⟨by simp [h3],fun j a ha=>?_⟩
  cases j with
  | zero=>simp at ha;subst ha;exact ⟨v,rfl,h1⟩
  | succ j=>simp at ha;obtain ⟨x,hx,hx'⟩ := h4 j a ha;exact ⟨x,by simpa using hx,hx'⟩
 | [],_ :: _,hw=>hw.elim
 | _ :: _,[],hw=>hw.elim
theorem wkL_isB {σ : List (Nat × Option Nat)} : ∀ {l' l : List AV},wkL σ l' l -> mB l' = true -> mB l = true
 | [.nilp,.nils],l,hw,_=>by
  match l,hw with
  | [.nilp,.nils],_=>rfl
  | [a,b],⟨h1,h2,_⟩ =>
   have e1 : a = .nilp := by cases a <;> first|rfl|exact h1.elim
   have e2 : b = .nils := by cases b <;> first|rfl|exact h2.elim
   rw [e1,e2];rfl
  | [_],⟨_,h2⟩=>exact h2.elim
  | _ :: _ :: _ :: _,⟨_,_,h3⟩=>exact h3.elim
 | l',l,hw,hi=>by
  unfold mB at hi
  split at hi
  . match l,hw with
    | [a,b],⟨h1,h2,_⟩ =>
     have e1 : a = .nilp := by cases a <;> first|rfl|exact h1.elim
     have e2 : b = .nils := by cases b <;> first|rfl|exact h2.elim
     rw [e1,e2];rfl
    | [_],⟨_,h2⟩=>exact h2.elim
    | _ :: _ :: _ :: _,⟨_,_,h3⟩=>exact h3.elim
  . cases hi
theorem wk_R {σ : List (Nat × Option Nat)} {v' v : AV} {u : Value} (hw : wk σ v' v) (hr : AVR ρ h Im v u) : AVR (subR ρ σ) h Im v' u := by
 unfold wk at hw
 split at hw
 . split at hw
   . obtain ⟨h1,h2⟩ := oP hw
     cases hr with
     | agg l cs cf hl hcf hr =>
      refine .agg _ cs cf omG (fun j hj=>hcf j omG) (fun j a' ha=>?_)
      obtain ⟨x,hx,hx'⟩ := h2 j a' ha
      exact pP hx' (hr j x hx)
   . exact hw.elim
 . split at hw
   . obtain ⟨rfl,hw⟩ := hw
     obtain ⟨h1,h2⟩ := oP hw
     cases hr with
     | fn f l cs cf hl hcf hr =>
      refine .fn _ _ cs cf omG (fun j hj=>hcf j omG) (fun j a' ha=>?_)
      obtain ⟨x,hx,hx'⟩ := h2 j a' ha
      exact pP hx' (hr j x hx)
   . exact hw.elim
 . exact pP hw hr
theorem wkT_R {σ : List (Nat × Option Nat)} : ∀ {ts : List (Nat × AV)},wkT σ tm ts -> ∀ t,lL ts t = .any \/ wk σ (lL ts t) (tm t)
 | [],_,t => .inl rfl
 | (s,v) :: l,hw,t=>by
  obtain ⟨h1,h2⟩ := hw
  unfold lL
  cases hb : Nat.beq s t with
  | true=>have := Nat.eq_of_beq_eq_true hb;subst this;exact .inr h1
  | false=>exact wkT_R h2 t
theorem nT {σ : List (Nat × Option Nat)} : ∀ {bs : List (Nat × Blk)},wkBs σ blk bs -> ∀ i b,oJ bs i = some b -> wkB σ blk i b
 | [],_,i,b,hb=>by cases hb
 | (s,c) :: l,hw,i,b,hb=>by
  obtain ⟨h1,h2⟩ := hw
  unfold oJ at hb
  cases hbq : Nat.beq s i with
  | true =>
   have := Nat.eq_of_beq_eq_true hbq;subst this
   simp only [hbq] at hb;cases hb;exact h1
  | false =>
   simp only [hbq] at hb;exact nT h2 i b hb
theorem qkn {σ : List (Nat × Option Nat)} : ∀ {i' i : Nat},m8 σ i' = some (some i) -> ∃ k : Nat,(zG σ)[k]? = some i := by
 induction σ with
 | nil=>intro i' i hl;cases hl
 | cons x l ih =>
  obtain ⟨s,o⟩ := x
  intro i' i hl
  unfold m8 at hl
  cases hb : Nat.beq s i' with
  | true =>
   simp only [hb] at hl
   cases hl
   exact ⟨0,rfl⟩
  | false =>
   simp only [hb] at hl
   obtain ⟨k,hk⟩ := ih hl
   cases o with
   | none=>exact ⟨k,hk⟩
   | some j=>exact ⟨k + 1,by simpa [zG] using hk⟩
theorem qko {σ : List (Nat × Option Nat)} (hn : vA (zG σ) = true) : ∀ {i' j' i : Nat},m8 σ i' = some (some i) -> m8 σ j' = some (some i) -> i' = j' := by
 induction σ with
 | nil=>intro i' j' i hl;cases hl
 | cons x l ih =>
  obtain ⟨s,o⟩ := x
  intro i' j' i hi hj
  have fresh : ∀ {k'},o = some i -> m8 l k' = some (some i) -> False := by
   intro k' ho hk
   subst ho
   obtain ⟨k,hk'⟩ := qkn hk
   have := mJ hn 0 (k + 1) i rfl (by simpa [zG] using hk')
   omega
  have hn' : vA (zG l) = true := by
   cases o with
   | none=>exact hn
   | some j =>
    simp only [zG,vA] at hn
    split at hn
    . cases hn
    . exact hn
  unfold m8 at hi hj
  cases hb : Nat.beq s i' with
  | true =>
   simp only [hb] at hi
   cases hc : Nat.beq s j' with
   | true=>exact (Nat.eq_of_beq_eq_true hb).symm.trans (Nat.eq_of_beq_eq_true hc)
   | false=>simp only [hc] at hj;cases hi;exact (fresh rfl hj).elim
  | false =>
   simp only [hb] at hi
   cases hc : Nat.beq s j' with
   | true=>simp only [hc] at hj;cases hj;exact (fresh rfl hi).elim
   | false=>simp only [hc] at hj;exact ih hn' hi hj
theorem wkB_R {σ : List (Nat × Option Nat)} {i : Nat} {b : Blk} (hw : wkB σ blk i b) (hE : ∀ i b,blk i = some b -> BlkR ρ h Im i b) : BlkR (subR ρ σ) h Im i b /\
 ∀ r,subR ρ σ i = some r -> ∃ j b',m8 σ i = some (some j) /\ blk j = some b' /\ ρ j = some r /\ b'.pinned = b.pinned := by
 unfold wkB at hw
 split at hw
 . split at hw
   . rename_i j hj
     split at hw
     . rename_i cells hbl
       obtain ⟨h1,h2⟩ := oP hw
       obtain ⟨r,cs,T,hr,hh,hsz,hcs⟩ := hE _ _ hbl
       refine ⟨⟨r,cs,T,by simp [subR,hj,hr],hh,⟨by have := hsz.len;omega,fun hi=>hsz.bld (wkL_isB hw hi)⟩,fun k a' ha=>?_⟩,fun r' hr'=>?_⟩
       . obtain ⟨x,hx,hx'⟩ := h2 k a' ha
         obtain ⟨c,hc,hcr⟩ := hcs k x hx
         exact ⟨c,hc,pP hx' hcr⟩
       . simp only [subR,hj] at hr'
         exact ⟨j,_,hj,hbl,hr',rfl⟩
     . exact hw.elim
   . exact hw.elim
 . split at hw
   . rename_i j hj
     split at hw
     . rename_i T κ l sh hbl
       obtain ⟨⟨rfl,rfl⟩,he⟩ := hw
       cases he
       refine ⟨?_,fun r' hr'=>?_⟩
       . have := hE _ _ hbl
         simp only [BlkR,subR,hj] at this ⊢
         exact this
       . simp only [subR,hj] at hr'
         exact ⟨j,_,hj,hbl,hr',rfl⟩
     . exact hw.elim
   . rename_i hj
     refine ⟨?_,fun r' hr'=>?_⟩
     . simp only [BlkR,subR,hj];exact hw
     . simp only [subR,hj] at hr';cases hr'
   . exact hw.elim
 . split at hw
   . rename_i j hj
     split at hw
     . rename_i T κ l hbl
       obtain ⟨rfl,he⟩ := hw
       cases he
       refine ⟨?_,fun r' hr'=>?_⟩
       . have := hE _ _ hbl
         simp only [BlkR,subR,hj] at this ⊢
         exact this
       . simp only [subR,hj] at hr'
         exact ⟨j,_,hj,hbl,hr',rfl⟩
     . exact hw.elim
   . rename_i hj
     refine ⟨?_,fun r' hr'=>?_⟩
     . simp only [BlkR,subR,hj];exact hw
     . simp only [subR,hj] at hr';cases hr'
   . exact hw.elim
 . split at hw
   . rename_i j hj
     split at hw
     . rename_i l z hbl
       obtain ⟨rfl,rfl⟩ := hw
       refine ⟨?_,fun r' hr'=>?_⟩
       . have := hE _ _ hbl
         simp only [BlkR,subR,hj] at this ⊢
         exact this
       . simp only [subR,hj] at hr'
         exact ⟨j,_,hj,hbl,hr',rfl⟩
     . exact hw.elim
   . rename_i hj
     refine ⟨?_,fun r' hr'=>?_⟩
     . simp only [BlkR,subR,hj];exact hw
     . simp only [subR,hj] at hr';cases hr'
   . exact hw.elim
 . split at hw
   . rename_i j hj
     split at hw
     . rename_i l n z hbl
       obtain ⟨rfl,rfl,rfl⟩ := hw
       refine ⟨?_,fun r' hr'=>?_⟩
       . have := hE _ _ hbl
         simp only [BlkR,subR,hj] at this ⊢
         exact this
       . simp only [subR,hj] at hr'
         exact ⟨j,_,hj,hbl,hr',rfl⟩
     . exact hw.elim
   . exact hw.elim
theorem SubP.sub {σ : List (Nat × Option Nat)} {ts : List (Nat × AV)} {bs : List (Nat × Blk)} (hs : SubP σ n ts bs S) : Sub S (x5 n ts bs) := by
 obtain ⟨m,tm,blk⟩ := S
 obtain ⟨⟨hnm,hnd,hpn⟩,ht,hb⟩ := hs
 have := Nat.eq_of_beq_eq_true hnm
 subst this
 intro w0 G Im0 a w ⟨ρ,Im,hR⟩
 have hB : ∀ i b,oJ bs i = some b -> _ := fun i b hi=>wkB_R (h := w.heap) (Im := Im) (ρ := ρ) (nT hb i b hi) hR.env.bl
 have hold : ∀ i b r,oJ bs i = some b -> subR ρ σ i = some r -> _ := fun i b r hi=>(hB i b hi).2 r
 have hold' : ∀ {i r},oJ bs i ≠ none -> subR ρ σ i = some r -> ∃ j,m8 σ i = some (some j) /\ blk j ≠ none /\ ρ j = some r := fun {i r} hi hr=>by
  have ⟨b,hb⟩ := Option.ne_none_iff_exists'.1 hi
  obtain ⟨j,b',h1,h2,h3,_⟩ := hold i b r hb hr
  exact ⟨j,h1,by simp [h2],h3⟩
 refine ⟨subR ρ σ,Im,hR.defers,hR.size,fun t=>?_,⟨fun i b hi=>(hB i b hi).1,fun i j r s x hi hj hr hs hx hy=>?_,fun i r hi hr=>?_,fun i r x hi hr=>?_,fun i r x o hi hr=>?_,hR.env.imlt,fun i b r o hi hr=>?_⟩,
  ⟨fun i r x hi hr=>?_,hR.ext.im0,hR.ext.imNew,hR.ext.keep,hR.ext.frame,hR.ext.grow,hR.ext.os,hR.ext.tape,hR.ext.output,fun i p hp hi=>?_⟩⟩
 . rcases wkT_R ht t with h1|h1
   . show AVR _ _ _ (lL ts t) _
     rw [h1];exact .any _
   . exact wk_R h1 (hR.tm t)
 . obtain ⟨i1,h1,h2,h3⟩ := hold' hi hr
   obtain ⟨j1,h1',h2',h3'⟩ := hold' hj hs
   have := hR.env.inj i1 j1 r s x h2 h2' h3 h3' hx hy
   subst this
   exact qko hnd h1 h1'
 . obtain ⟨i1,h1,h2,h3⟩ := hold' hi hr
   exact hR.env.fpNe i1 r h2 h3
 . obtain ⟨i1,h1,h2,h3⟩ := hold' hi hr
   exact hR.env.fpLt i1 r x h2 h3
 . obtain ⟨i1,h1,h2,h3⟩ := hold' hi hr
   exact hR.env.fpIm i1 r x o h2 h3
 . obtain ⟨i1,b1,h1,h2,h3,h4⟩ := hold i b r hi hr
   rw [<- h4]
   exact hR.env.imOwn i1 b1 r o h2 h3
 . obtain ⟨i1,h1,h2,h3⟩ := hold' hi hr
   exact hR.ext.own i1 r x h2 h3
 . have ⟨bi,hbi⟩ := Option.ne_none_iff_exists'.1 hi
   have hge : ¬ i < 900000 := fun hlt=>by rw [G.lt i hlt] at hp;cases hp
   have hw := nT hb i bi hbi
   have e1 := qkh hpn hge
   have key : ∃ j b',m8 σ i = some (some j) /\ blk j = some b' := by
    unfold wkB at hw
    split at hw
    . split at hw
      . rename_i j hj
        split at hw
        . rename_i c hc;exact ⟨j,_,hj,hc⟩
        . exact hw.elim
      . exact hw.elim
    . split at hw
      . rename_i j hj
        split at hw
        . rename_i hc;exact ⟨j,_,hj,hc⟩
        . exact hw.elim
      . rename_i hj;exact absurd hj (e1 none).1
      . exact hw.elim
    . split at hw
      . rename_i j hj
        split at hw
        . rename_i hc;exact ⟨j,_,hj,hc⟩
        . exact hw.elim
      . rename_i hj;exact absurd hj (e1 none).1
      . exact hw.elim
    . split at hw
      . rename_i j hj
        split at hw
        . rename_i hc;exact ⟨j,_,hj,hc⟩
        . exact hw.elim
      . rename_i hj;exact absurd hj (e1 none).1
      . exact hw.elim
    . split at hw
      . rename_i j hj
        split at hw
        . rename_i hc;exact ⟨j,_,hj,hc⟩
        . exact hw.elim
      . exact hw.elim
   obtain ⟨j,b',h1,h2⟩ := key
   have e2 := (e1 (some j)).2 j h1
   subst e2
   simp only [subR,h1]
   exact hR.ext.pin j p hp (by show blk j ≠ none;rw [h2];simp)
/-! ### a result as a datum -/
theorem qe1 {B : List Blk} {y x : AV} {u : Value} (hw : fE B y x) (hr : AVR ρ h Im x u)
 (hrow : ∀ i κ l,(∃ T sh,B[i]? = some (.row T κ l sh)) \/ (∃ T,B[i]? = some (.tree T κ l)) -> ∀ u,AVR ρ h Im (.row i) u -> RepD h Im' (.seq κ l) u)
 (hI : ∀ b o,Im b o -> Im' b o) : AVR ρ' h Im' y u := by
 have hr' : AVR ρ h Im' x u := hr.mono (fun _ _ _=>rfl) hI
 unfold fE at hw
 split at hw
 . exact .any _
 . exact .cell _ (AVR.one hw hr)
 . split at hw
   . subst hw;cases hr' with|dat d v hd=>exact .dat _ _ hd
   . split at hw
     . cases hr;exact .dat _ _ (.empty _ _ hw _ _)
     . exact hw.elim
   . split at hw
     . rename_i hb;subst hw;exact .dat _ _ (hrow _ _ _ (.inl ⟨_,_,hb⟩) _ hr)
     . rename_i hb;subst hw;exact .dat _ _ (hrow _ _ _ (.inr ⟨_,hb⟩) _ hr)
     . exact hw.elim
   . exact hw.elim
 . split at hw
   . cases hr;exact .nils
   . exact hw.elim
 . split at hw
   . obtain ⟨h1,rfl⟩ := hw
     cases h1
     cases hr' with|eptr κ x j b o cf him hc hr3=>exact .eptr _ _ _ b o cf him hc hr3
   . exact hw.elim
 . exact hw.elim
theorem qez {B : List Blk} : ∀ {l' l : List AV},oI B l' l -> l'.length = l.length /\ ∀ (j : Nat) (a' : AV),l'[j]? = some a' -> ∃ a,l[j]? = some a /\ fE B a' a
 | [],[],_=>⟨rfl,fun j a ha=>by simp at ha⟩
 | v' :: l',v :: l,hw=>by
  obtain ⟨h1,h2⟩ := hw
  obtain ⟨h3,h4⟩ := qez h2
  refine ⟨by simp [h3],fun j a ha=>?_⟩
  cases j with
  | zero=>simp at ha;subst ha;exact ⟨v,rfl,h1⟩
  | succ j=>simp at ha;obtain ⟨x,hx,hx'⟩ := h4 j a ha;exact ⟨x,by simpa using hx,hx'⟩
 | [],_ :: _,hw=>hw.elim
 | _ :: _,[],hw=>hw.elim
theorem qe0 {B : List Blk} : ∀ {l' l : List AV},iX B l' l -> l'.length = l.length /\ ∀ (j : Nat) (a' : AV),l'[j]? = some a' -> ∃ a,l[j]? = some a /\ frzM B a' a
 | [],[],_=>⟨rfl,fun j a ha=>by simp at ha⟩
 | v' :: l',v :: l,hw=>by
  obtain ⟨h1,h2⟩ := hw
  obtain ⟨h3,h4⟩ := qe0 h2
  refine ⟨by simp [h3],fun j a ha=>?_⟩
  cases j with
  | zero=>simp at ha;subst ha;exact ⟨v,rfl,h1⟩
  | succ j=>simp at ha;obtain ⟨x,hx,hx'⟩ := h4 j a ha;exact ⟨x,by simpa using hx,hx'⟩
 | [],_ :: _,hw=>hw.elim
 | _ :: _,[],hw=>hw.elim
theorem qey {B : List Blk} {y x : AV} {u : Value} (hw : frzM B y x) (hr : AVR ρ h Im x u)
 (hrow : ∀ i κ l,(∃ T sh,B[i]? = some (.row T κ l sh)) \/ (∃ T,B[i]? = some (.tree T κ l)) -> ∀ u,AVR ρ h Im (.row i) u -> RepD h Im' (.seq κ l) u)
 (hI : ∀ b o,Im b o -> Im' b o) : AVR ρ' h Im' y u := by
 unfold frzM at hw
 split at hw
 . split at hw
   . obtain ⟨h1,h2⟩ := qez hw
     cases hr with
     | agg l cs cf hl hcf hr =>
      refine .agg _ cs cf omG (fun j hj=>hcf j omG) (fun j a' ha=>?_)
      obtain ⟨x,hx,hx'⟩ := h2 j a' ha
      exact qe1 hx' (hr j x hx) hrow hI
   . exact hw.elim
 . exact qe1 hw hr hrow hI
theorem frz_R {B : List Blk} {y x : AV} {u : Value} (hw : frz B y x) (hr : AVR ρ h Im x u)
 (hrow : ∀ i κ l,(∃ T sh,B[i]? = some (.row T κ l sh)) \/ (∃ T,B[i]? = some (.tree T κ l)) -> ∀ u,AVR ρ h Im (.row i) u -> RepD h Im' (.seq κ l) u)
 (hI : ∀ b o,Im b o -> Im' b o) : AVR ρ' h Im' y u := by
 unfold frz at hw
 split at hw
 . split at hw
   . obtain ⟨h1,h2⟩ := qe0 hw
     cases hr with
     | tup l cs cf hl hcf hr =>
      refine .tup _ cs cf omG (fun j hj=>hcf j omG) (fun j a' ha=>?_)
      obtain ⟨x,hx,hx'⟩ := h2 j a' ha
      exact qey hx' (hr j x hx) hrow hI
   . exact hw.elim
 . exact qey hw hr hrow hI
theorem CallsF.toV {f : FuncId} {args : List AV} {fr : Bool} {R : AV -> List Blk -> Prop} {X : AV} (hc : CallsF P f args fr R) (hR : ∀ res B',R res B' -> frz B' X res) : CallsV P f args X := by
 obtain ⟨hfn,hc⟩ := hc
 refine ⟨hfn,fun w Im vs hsz hargs him=>?_⟩
 refine (hc w Im vs hsz hargs him).mono fun e w' ⟨v,res,B',ρ',Im',he,hRR,hav,henv,hext⟩=>?_
 let Pin : Nat -> Prop := fun b=>∃ i r,B'[i]? ≠ none /\ ρ' i = some r /\ r.has b
 let Im2 : Nat -> Nat -> Prop := fun b o=>Im' b o \/ Pin b
 have hrow : ∀ i κ l,(∃ T sh,B'[i]? = some (.row T κ l sh)) \/ (∃ T,B'[i]? = some (.tree T κ l)) -> ∀ u,AVR ρ' w'.heap Im' (.row i) u -> RepD w'.heap Im2 (.seq κ l) u := by
  intro i κ l hb u hu
  have hpos := κ.sz_pos
  have fin : ∀ (r : RI) (cs : Array Value) (T : Nat),B'[i]? ≠ none -> ρ' i = some r -> w'.heap[r.b]? = some (.cells cs T (0,0)) -> r.len = l.length -> r.len <= r.cap -> r.cap <= maxLen ->
   (∀ k j,k < l.length -> j < κ.sz -> ∃ c : Value,cs[k * κ.sz + j]? = some c /\ RepD w'.heap Im2 (t6 κ l k j) c) -> RepD w'.heap Im2 (.seq κ l) (.slice (some ⟨r.b,0,none⟩) r.len r.cap) := by
   intro r cs T hi hr h4 h1 h2 h3 h6
   have hcell' : ∀ k j,k < l.length -> j < κ.sz -> hcell w'.heap r.b (0 + k * κ.sz + j) = some (cs.getD (k * κ.sz + j) undef) := fun k j hk hj=>by
    obtain ⟨c,hcc,_⟩ := h6 k j hk hj
    simp [hcell,h4,hcc,Array.getD_eq_getD_getElem?]
   have hlen : l.length <= r.cap := by omega
   rw [h1]
   refine .seq κ l r.b 0 r.cap (fun k j=>cs.getD (k * κ.sz + j) undef) hlen h3 (fun k j hk hj => .inr ⟨i,r,hi,hr,.inl rfl⟩) hcell' (fun k j hk hj=>?_)
   obtain ⟨c,hcc,hcr⟩ := h6 k j hk hj
   simp only [Array.getD_eq_getD_getElem?,hcc,Option.getD_some]
   exact hcr
  rcases hb with ⟨T,sh,hb⟩|⟨T,hb⟩
  . have hB := henv.bl i _ hb
    cases hu with
    | rowN i hi=>simp only [BlkR,hi] at hB;exact .empty κ l hB _ _
    | row i r hi =>
     simp only [BlkR,hi] at hB
     obtain ⟨h1,h2,h3,cs,T0,h4,h5,h6⟩ := hB
     refine fin r cs _ (by simp [hb]) hi h4 h1 h2 h3 fun k j hk hj=>?_
     obtain ⟨c,hcc,hcr⟩ := h6 k j hk hj
     exact ⟨c,hcc,hcr.mono (fun _ _ _=>rfl) (fun _ _ => .inl)⟩
  . have hB := henv.bl i _ hb
    cases hu with
    | rowN i hi=>simp only [BlkR,hi] at hB;exact .empty κ l hB _ _
    | row i r hi =>
     simp only [BlkR,hi] at hB
     obtain ⟨h1,h2,h3,cs,Fk,T0,h4,h5,hF,_,h6⟩ := hB
     refine fin r cs _ (by simp [hb]) hi h4 h1 h2 h3 fun k j hk hj=>?_
     obtain ⟨c,hcc,hcr⟩ := h6 k j hk hj
     exact ⟨c,hcc,hcr.melt fun x o hx => .inr ⟨i,r,by simp [hb],hi,.inr (hF k j x hk hj hx).1⟩⟩
 have hX := frz_R (ρ' := fun _=>none) (hR _ _ hRR) hav hrow (fun _ _ => .inl)
 have hnew : ∀ {b},Pin b -> w.heap.size <= b := fun {b} ⟨i,r,hb,hi,hx⟩=>(hext.own i r b hb hi hx).elim (fun h=>h.elim) id
 have hlt : ∀ {b},Pin b -> b < w'.heap.size := fun {b} ⟨i,r,hb,hi,hx⟩=>henv.lt hb hi hx
 cases hfl : X.flat with
 | true =>
  exact ⟨v,X,[],fun _=>none,fun _ _=>False,he,⟨rfl,rfl⟩,hX.flat hfl,⟨fun i b hi=>(by simp at hi),fun i j r s x hi=>absurd rfl hi,fun i r hi=>absurd rfl hi,fun i r x hi=>absurd rfl hi,fun i r x o hi=>absurd rfl hi,fun _ _ h=>h.elim,fun i b r o hi=>(by simp at hi)⟩,
   ⟨fun i r x hi=>absurd rfl hi,fun _ _ h=>h.elim,fun _ _ h=>h.elim,fun _ _ h=>h.elim,hext.frame,hext.grow,hext.os,hext.tape,hext.output,fun _ _ h=>by cases h⟩⟩
 | false =>
  have him2 : ∀ b o,Im b o -> Im2 b o \/ fr = true := fun b o h=>by
   cases fr with
   | false=>exact .inl (.inl (hext.im0 b o h))
   | true=>exact .inr rfl
  refine ⟨v,X,[],fun _=>none,fun b o=>Im2 b o \/ Im b o,he,⟨rfl,rfl⟩,hX.mono (fun _ _ _=>rfl) (fun _ _ => .inl),⟨fun i b hi=>(by simp at hi),fun i j r s x hi=>absurd rfl hi,fun i r hi=>absurd rfl hi,fun i r x hi=>absurd rfl hi,fun i r x o hi=>absurd rfl hi,fun b o h=>?_,fun i b r o hi=>(by simp at hi)⟩,
   ⟨fun i r x hi=>absurd rfl hi,fun _ _ h => .inr h,fun b o h=>?_,fun b o h=>?_,hext.frame,hext.grow,hext.os,hext.tape,hext.output,fun _ _ h=>by cases h⟩⟩
  . rcases h with (h|h)|h
    . exact henv.imlt b o h
    . exact hlt h
    . exact Nat.lt_of_lt_of_le (him.lt b o h) hext.grow
  . rcases h with (h|h)|h
    . cases fr with
      | false=>exact hext.imNew b o h
      | true=>exact .inr ((hext.imNew b o h).elim (fun h=>h.elim) id)
    . exact .inr (.inr (hnew h))
    . exact .inl h
  . show hcell w'.heap b o = hcell w.heap b o
    exact dE (hext.frame b (him.lt b o h) (fun h=>h)) o
theorem CallsV.of_awp (hτ : d6 P τ) (hm : P.follows .mixedOrders = true) {f : FuncId} {fn : Func} {c : Code} {args : List AV} {X : AV} (hf : P.funcs[f]? = some fn) (hname : (fn.name == "runtime.NumGoroutine") = false)
 (hb : fn.body = some c) (hn : Nat.ble args.length fn.ntmps = true)
 (h : yA P τ c ⟨fn.ntmps,fun t=>args.getD t .any,fun _=>none⟩ (bS τ fn false fun res B'=>frz B' X res)) : CallsV P f args X :=
 (CallsF.of_awp hτ hm hf hname hb hn h).toV fun _ _ h=>h
end
end Vg
