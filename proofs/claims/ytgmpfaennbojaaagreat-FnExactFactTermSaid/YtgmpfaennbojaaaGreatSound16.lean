/- Code. Condition: the table of types is the program's; orders are mixed. -/
import Derived.Test.YtgmpfaennbojaaaGreatDraw
import Derived.Test.YtgmpfaennbojaaaGreatSound15
namespace Vg
open Go
section
variable {P : Program} {τ : Tys} {Im Im' : Nat → Nat → Prop} {ρ ρ' ρ2 : Rho} {h h' : Array Obj} {w w' : World}
variable {w0 : World} {G : GP} {Im0 : Nat → Nat → Prop} {S : AState} {a : Act} {n : Nat} {tm : Nat → AV} {blk : Nat → Option Blk}
variable [hT : Nonempty (TabH w0.heap Im0)]
/-! ### code -/
def AX.toExit : AX → Exit
 | .normal => .normal
 | .exit i => .exit i
 | .goto l => .goto l
 | .ret => .ret
theorem awp_sound (hτ : TysOk P τ) (hm : P.follows .mixedOrders = true) : ∀ (c : Code) (S : AState) (K : AX → AState → Prop) (Q : Exit → Act → World → Prop) (a : Act) (w : World), awp P τ c S K → RelE w0 G Im0 S a w →
 (∀ e S' a' w', K e S' → RelE w0 G Im0 S' a' w' → Q e.toExit a' w') → c.wp P Q a w := by
 intro c
 induction c with
 | skip => intro S K Q a w h hR hn; exact wp_skip (hn .normal S a w h hR)
 | region id ops draw =>
  intro S K Q a w h hR hn
  cases draw with
  | false =>
   simp only [awp, forceBs1_eq] at h
   exact wp_region_list (awpL_sound hτ ops.toList S (K .normal) a w h hR fun S' a' w' hS hR' => hn .normal S' a' w' hS hR')
  | true =>
   simp only [awp] at h
   cases hd : noSliceRow τ ops.toList && drawOk ops (preLen ops.toList) with
   | false =>
    simp only [hd] at h
    exact drawR_sound hτ hm h hR fun S' a' w' hS hR' => hn .normal S' a' w' hS hR'
   | true =>
    simp only [hd] at h
    rw [Bool.and_eq_true] at hd
    rcases h with ⟨h⟩ | ⟨h⟩
    case r => exact drawR_sound hτ hm h hR fun S' a' w' hS hR' => hn .normal S' a' w' hS hR'
    exact draw_sound hτ hm hd.2 h hR fun S' a' w' hS hR' => hn .normal S' a' w' hS hR'
 | seq x y ihx ihy =>
  intro S K Q a w h hR hn
  refine wp_seq (ihx S _ _ a w (h _ rfl) hR fun e S' a' w' hK hR' => ?_)
  cases e with
  | normal => exact ihy S' K Q a' w' hK hR' hn
  | exit i => exact hn (.exit i) S' a' w' hK hR'
  | goto l => exact hn (.goto l) S' a' w' hK hR'
  | ret => exact hn .ret S' a' w' hK hR'
 | cond c x y ihx ihy =>
  intro S K Q a w h hR hn
  obtain ⟨ρ, Im, hR0⟩ := hR
  simp only [awp] at h
  split at h
  · rename_i b hb
    have hc := ev_rel hR0 c
    rw [hb] at hc
    exact wp_cond_split (dat_bool hc) (fun e => ihx S K Q a w (h.1 e) ⟨ρ, Im, hR0⟩ hn) (fun e => ihy S K Q a w (h.2 e) ⟨ρ, Im, hR0⟩ hn)
  · exact h.elim
 | block id c ih =>
  intro S K Q a w h hR hn
  refine wp_block (ih S _ _ a w h hR fun e S' a' w' hK hR' => ?_)
  cases e with
  | normal => exact hn .normal S' a' w' hK hR'
  | exit i =>
   simp only [AX.toExit, Exit.inBlock]
   cases hb : Nat.beq i id with
   | true =>
    have := Nat.eq_of_beq_eq_true hb
    simp only [hb] at hK
    rw [if_pos this]; exact hn .normal S' a' w' hK hR'
   | false =>
    have : i ≠ id := fun e => by subst e; simp at hb
    simp only [hb] at hK
    rw [if_neg this]; exact hn (.exit i) S' a' w' hK hR'
  | goto l => exact hn (.goto l) S' a' w' hK hR'
  | ret => exact hn .ret S' a' w' hK hR'
 | loop c ih =>
  intro S K Q a w h hR hn
  obtain ⟨α, St, μ, x, hsub, hround⟩ := h
  intro b kk cs
  have key : ∀ k x a w, μ x = k → RelE w0 G Im0 (St x) a w →
   ∃ e a' w', Q e a' w' ∧ Arrives P (lone (b.at a (.code c :: .inLoop c :: kk)) cs w) b kk cs e a' w' := by
   intro k
   induction k using Nat.strongRecOn with
   | _ k ihk =>
    intro x a w hk hR
    have h1 := ih (St x) _ (Exit.then (fun a' w' => ∃ y, μ y < k ∧ RelE w0 G Im0 (St y) a' w') Q) a w (hround x) hR (fun e S' a' w' hK hR' => by
     cases e with
     | normal =>
      obtain ⟨y, hy, hs⟩ := hK
      exact ⟨y, by omega, hs _ _ _ _ _ hR'⟩
     | exit i => exact hn (.exit i) S' a' w' hK hR'
     | goto l => exact hn (.goto l) S' a' w' hK hR'
     | ret => exact hn .ret S' a' w' hK hR')
    obtain ⟨e, a₁, w₁, hq, harr⟩ := h1 b (.inLoop c :: kk) cs
    cases e with
    | normal =>
     obtain ⟨y, hy, hRy⟩ := hq
     obtain ⟨e₂, a₂, w₂, hq₂, harr₂⟩ := ihk (μ y) hy y a₁ w₁ rfl hRy
     exact ⟨e₂, a₂, w₂, hq₂, .of_steps (Steps.trans harr (.one step_inLoop)) harr₂⟩
    | exit id => exact ⟨_, a₁, w₁, hq, .pass (x := .inLoop c) rfl (fun _ _ => .inl (by simp)) harr⟩
    | goto l => exact ⟨_, a₁, w₁, hq, .pass (x := .inLoop c) rfl (fun _ _ => .inl (by simp)) harr⟩
    | ret => exact ⟨_, a₁, w₁, hq, .pass (x := .inLoop c) rfl (fun _ _ => .inl (by simp)) harr⟩
    | panic ch => exact ⟨_, a₁, w₁, hq, .pass (x := .inLoop c) rfl (fun _ _ => .inl (by simp)) harr⟩
    | outgrown => exact ⟨_, a₁, w₁, hq, .pass (x := .inLoop c) rfl (fun _ _ => .inl (by simp)) harr⟩
  obtain ⟨e, a', w', hq, harr⟩ := key _ x a w rfl (hsub _ _ _ _ _ hR)
  exact ⟨e, a', w', hq, .of_steps (.one step_loop) harr⟩
 | exit i => intro S K Q a w h hR hn; exact wp_exit (hn (.exit i) S a w h hR)
 | label l => intro S K Q a w h hR hn; exact wp_label (hn .normal S a w h hR)
 | ret => intro S K Q a w h hR hn; exact wp_ret (hn .ret S a w h hR)
 | _ => intro S K Q a w h hR hn; exact h.elim
end
end Vg

namespace Vg
open Go
def ares (τ : Tys) (S : AState) : List ResultVar → (List AV → Prop) → Prop
 | [], K => K []
 | .tmp t :: rs, K => ares τ S rs fun l => K (S.tm t :: l)
 | .cell a T :: rs, K => match τ T with
  | some i => aload i S.blk (S.tm a) fun v => ares τ S rs fun l => K (v :: l)
  | none => False
def oneOrTup : List AV → AV
 | [v] => v
 | l => .tup l
def AV.lightC : AV → Bool
 | .dat d => d.flat
 | .nils => true
 | .cell => true
 | .any => true
 | .row _ => true
 | .nilm => true
 | .mp _ => true
 | .ptr _ _ => true
 | .rptr _ _ _ _ => true
 | _ => false
def AV.lightM : AV → Bool
 | .agg l => l.all AV.lightC
 | v => v.lightC
def AV.light : AV → Bool
 | .tup l => l.all AV.lightM
 | v => v.lightM
def Blk.light : Blk → Bool
 | .box cells => cells.all AV.lightC
 | .row _ κ _ _ => κ.flat
 | .tree _ _ _ => true
 | .mp _ _ => true
def packL (S : AState) (fr : Bool) (R : AV → List Blk → Prop) (res : AV) (L : List Nat) : Prop :=
 match blksOf S.blk L L with
 | some bs => nodupB L = true ∧ (match fr with | true => (res.num L).light && bs.all Blk.light | false => true) = true ∧ R (res.num L) bs
 | none => False
def pack (S : AState) (fr : Bool) (R : AV → List Blk → Prop) (res : AV) : Prop :=
 force res fun res => forceIds S.blk (addIds res.ids []) fun L => packL S fr R res L
def fpost (τ : Tys) (fn : Func) (fr : Bool) (R : AV → List Blk → Prop) (e : AX) (S : AState) : Prop :=
 match e with
 | .normal => ares τ S fn.results.toList fun vs => pack S fr R (oneOrTup vs)
 | .ret => ares τ S fn.results.toList fun vs => pack S fr R (oneOrTup vs)
 | _ => False
section
variable {P : Program} {τ : Tys} {Im Im' : Nat → Nat → Prop} {ρ ρ' ρ2 : Rho} {h h' : Array Obj} {w w' : World}
variable {w0 : World} {G : GP} {Im0 : Nat → Nat → Prop} {S : AState} {a : Act} {n : Nat} {tm : Nat → AV} {blk : Nat → Option Blk}
theorem K.flat_enc {κ : K} (hf : κ.flat = true) (x : κ.T) (j : Nat) : ((κ.enc x).getD j (.bool false)).flat = true := by
 have all : ∀ d ∈ κ.enc x, d.flat = true := by
  cases κ <;> first | (simp [K.flat] at hf; done) | (intro d hd; simp [K.enc] at hd; rcases hd with rfl | rfl | rfl | rfl <;> rfl) | (intro d hd; simp [K.enc] at hd; subst hd; rfl)
 rw [List.getD_eq_getElem?_getD]
 cases h : (κ.enc x)[j]? with
 | none => rfl
 | some d => exact all d (List.mem_of_getElem? h)
theorem AVR.lightC {a : AV} {v : Value} (hf : a.lightC = true) (hr : AVR ρ h Im a v) : AVR ρ h Im' a v := by
 cases hr with
 | dat d v hd => exact .dat d v (hd.flat hf)
 | nils => exact .nils
 | cell v hv => exact .cell v hv
 | any v => exact .any v
 | row i r hi => exact .row i r hi
 | rowN i hi => exact .rowN i hi
 | nilm => exact .nilm
 | mp i r hi => exact .mp i r hi
 | mpN i hi => exact .mpN i hi
 | ptr i o r hi => exact .ptr i o r hi
 | rptr i k j sz r hi => exact .rptr i k j sz r hi
 | _ => simp [AV.lightC] at hf
theorem AVR.lightM {a : AV} {v : Value} (hf : a.lightM = true) (hr : AVR ρ h Im a v) : AVR ρ h Im' a v := by
 cases hr with
 | agg l cs cf hl hcf hr =>
  simp only [AV.lightM, List.all_eq_true] at hf
  exact .agg l cs cf hl hcf (fun j a ha => (hr j a ha).lightC (hf a (List.mem_of_getElem? ha)))
 | dat d v hd => exact .dat d v (hd.flat hf)
 | nils => exact .nils
 | cell v hv => exact .cell v hv
 | any v => exact .any v
 | row i r hi => exact .row i r hi
 | rowN i hi => exact .rowN i hi
 | nilm => exact .nilm
 | mp i r hi => exact .mp i r hi
 | mpN i hi => exact .mpN i hi
 | ptr i o r hi => exact .ptr i o r hi
 | rptr i k j sz r hi => exact .rptr i k j sz r hi
 | _ => simp [AV.lightM, AV.lightC] at hf
theorem AVR.light {a : AV} {v : Value} (hf : a.light = true) (hr : AVR ρ h Im a v) : AVR ρ h Im' a v := by
 cases hr with
 | tup l cs cf hl hcf hr =>
  simp only [AV.light, List.all_eq_true] at hf
  exact .tup l cs cf hl hcf (fun j a ha => (hr j a ha).lightM (hf a (List.mem_of_getElem? ha)))
 | agg l cs cf hl hcf hr => exact (AVR.agg l cs cf hl hcf hr).lightM hf
 | dat d v hd => exact .dat d v (hd.flat hf)
 | nils => exact .nils
 | cell v hv => exact .cell v hv
 | any v => exact .any v
 | row i r hi => exact .row i r hi
 | rowN i hi => exact .rowN i hi
 | nilm => exact .nilm
 | mp i r hi => exact .mp i r hi
 | mpN i hi => exact .mpN i hi
 | ptr i o r hi => exact .ptr i o r hi
 | rptr i k j sz r hi => exact .rptr i k j sz r hi
 | _ => simp [AV.light, AV.lightM, AV.lightC] at hf
theorem BlkR.light {i : Nat} {b : Blk} (hf : b.light = true) (hB : BlkR ρ h Im i b) : BlkR ρ h Im' i b := by
 cases b with
 | box cells =>
  obtain ⟨r, cs, T, hr, hh, hsz, hcs⟩ := hB
  refine ⟨r, cs, T, hr, hh, hsz, fun j x hx => ?_⟩
  obtain ⟨c, h1, h2⟩ := hcs j x hx
  simp only [Blk.light, List.all_eq_true] at hf
  exact ⟨c, h1, h2.lightC (hf x (List.mem_of_getElem? hx))⟩
 | row T κ l sh =>
  simp only [BlkR] at hB ⊢
  cases hr : ρ i with
  | none => rw [hr] at hB; exact hB
  | some r =>
   rw [hr] at hB
   obtain ⟨h1, h2, h3, cs, T0, hh, hsz, hcs⟩ := hB
   exact ⟨h1, h2, h3, cs, T0, hh, hsz, fun k j hk hj => let ⟨c, hc1, hc2⟩ := hcs k j hk hj; ⟨c, hc1, hc2.flat (K.flat_enc hf _ _)⟩⟩
 | tree T κ l => exact hB
 | mp l z => exact hB
def resGet (tmps : Array Value) : ResultVar → Sem Value
 | .tmp t => pure (tmps.getD t undef)
 | .cell x T => do loadVar T (← asAddr (tmps.getD x undef))
def valOf : List Value → Value
 | [v] => v
 | vs => .tuple vs.toArray
theorem ares_sound (hτ : TysOk P τ) (hR : Rel w0 G Im0 S ρ Im a w) : ∀ (rs : List ResultVar) (K : List AV → Prop), ares τ S rs K →
 ∃ (l : List AV) (vs : List Value), K l ∧ (rs.mapM (resGet a.tmps)).run P w = .ok vs w ∧
  vs.length = l.length ∧ ∀ j x, l[j]? = some x → AVR ρ w.heap Im x (vs.getD j undef)
 | [], K, h => ⟨[], [], h, by simp, rfl, by simp⟩
 | .tmp t :: rs, K, h => by
  simp only [ares] at h
  obtain ⟨l, vs, hK, hr, hl, hv⟩ := ares_sound hτ hR rs _ h
  refine ⟨_, a.tmps.getD t undef :: vs, hK, ?_, by simp [hl], fun j x hx => ?_⟩
  · rw [List.mapM_cons]
    simp only [Sem.run_bind, resGet, Sem.run_pure, Result.andThen_ok, hr]
  cases j with
  | zero => simp at hx; subst hx; exact hR.tm t
  | succ j => simp at hx; simpa using hv j x hx
 | .cell y T :: rs, K, h => by
  simp only [ares] at h
  cases hT : τ T with
  | none => simp [hT] at h
  | some i =>
   simp only [hT] at h
   have hp := hR.tm y
   obtain ⟨av, h1, _, u, hu, hav⟩ := aload_sound (hτ T i hT) hR.env hp h
   obtain ⟨l, vs, hK, hr, hl, hv⟩ := ares_sound hτ hR rs _ h1
   have hrun : ((asAddr (a.tmps.getD y undef)).run P w).andThen (fun x w' => (loadVar T x).run P w') = .ok u w := by
    revert hu
    generalize a.tmps.getD y undef = vv
    intro hu
    simp only [Instr.loadAt, Sem.run_bind] at hu
    cases vv with
    | pointer p =>
     cases p with
     | some p => exact hu
     | none => simp [Instr.sureAddr] at hu
    | _ => simp [Instr.sureAddr] at hu
   refine ⟨_, u :: vs, hK, ?_, by simp [hl], fun j x hx => ?_⟩
   · rw [List.mapM_cons]
     simp only [Sem.run_bind, resGet, hrun, Result.andThen_ok, hr, Sem.run_pure]
   · cases j with
     | zero => simp at hx; subst hx; exact hav
     | succ j => simp at hx; simpa using hv j x hx
theorem results_run {fn : Func} {tmps : Array Value} {vs : List Value} (h : (fn.results.toList.mapM (resGet tmps)).run P w = .ok vs w) : (results fn tmps).run P w = .ok (valOf vs) w := by
 have e : results fn tmps = (do let vs ← fn.results.mapM (resGet tmps); pure (if h : vs.size = 1 then vs[0] else .tuple vs)) := by
  unfold results
  congr 1
 rw [e, Array.mapM_eq_mapM_toList]
 simp only [Sem.run_bind, Sem.run_map, h, Result.andThen_ok, Sem.run_pure]
 cases vs with
 | nil => rfl
 | cons v vs => cases vs with
  | nil => rfl
  | cons u vs => rfl
theorem oneOrTup_rel {l : List AV} {vs : List Value} (hl : vs.length = l.length) (hv : ∀ j x, l[j]? = some x → AVR ρ h Im x (vs.getD j undef)) :
 AVR ρ h Im (oneOrTup l) (valOf vs) := by
 have tup : AVR ρ h Im (.tup l) (.tuple vs.toArray) := by
  refine .tup l _ (fun j => vs.getD j undef) (by simpa using hl) (fun j hj => ?_) hv
  have : j < vs.length := by omega
  simp [List.getD_eq_getElem?_getD, this]
 match l, vs, hl with
 | [x], [v], _ => exact hv 0 x rfl
 | [], [], _ => exact tup
 | x :: y :: l, v :: u :: vs, _ => exact tup
theorem CallsF.of_awp (hτ : TysOk P τ) (hm : P.follows .mixedOrders = true) {f : FuncId} {fn : Func} {c : Code} {args : List AV} {fr : Bool} {R : AV → List Blk → Prop} (hf : P.funcs[f]? = some fn) (hname : (fn.name == "runtime.NumGoroutine") = false)
 (hb : fn.body = some c) (hn : Nat.ble args.length fn.ntmps = true)
 (h : awp P τ c ⟨fn.ntmps, fun t => args.getD t .any, fun _ => none⟩ (fpost τ fn fr R)) : CallsF P f args fr R := by
 refine ⟨⟨fn, hf, hname, by rw [hb]; rfl⟩, fun w Im vs hsz hargs him => ?_⟩
 have hT : Nonempty (TabH w.heap Im) := ⟨him.tab⟩
 refine calls_of_wp hf hb ?_
 have hn' := Nat.le_of_ble_eq_true hn
 have hR : Rel w .nil Im ⟨fn.ntmps, fun t => args.getD t .any, fun _ => none⟩ (fun _ => none) Im { tmps := vs ++ Array.replicate (fn.ntmps - vs.size) undef, defers := [] } w := by
  refine ⟨rfl, by simp [hsz]; omega, fun t => ?_, ⟨fun i b hi => (by cases hi), fun i j r s x hi => absurd rfl hi, fun i r hi => absurd rfl hi, fun i r x hi => absurd rfl hi, fun i r x o hi => absurd rfl hi, him.lt, fun i b r o hi => (by cases hi)⟩,
   ⟨fun i r x hi => absurd rfl hi, fun _ _ x => x, fun _ _ x => .inl x, fun _ _ _ => rfl, fun _ _ _ => rfl, Nat.le_refl _, rfl, rfl, rfl, fun _ _ h => by cases h⟩⟩
  by_cases ht : t < args.length
  · have h1 := hargs t _ (List.getElem?_eq_getElem ht)
    have h2 : t < vs.size := by omega
    simp only [List.getD_eq_getElem?_getD, List.getElem?_eq_getElem ht, Option.getD_some, Array.getD_eq_getD_getElem?, Array.getElem?_append_left h2]
    rwa [Array.getD_eq_getD_getElem?] at h1
  · have e : args.getD t .any = .any := by rw [List.getD_eq_getElem?_getD, List.getElem?_eq_none (by omega)]; rfl
    simp only [e]; exact .any _
 refine awp_sound (w0 := w) (G := .nil) (Im0 := Im) hτ hm c _ _ _ _ w h ⟨_, _, hR⟩ fun e S' a' w' hpost hRE => ?_
 obtain ⟨ρ', Im', hR'⟩ := hRE
 have main : ares τ S' fn.results.toList (fun vs => pack S' fr R (oneOrTup vs)) → a'.defers = [] ∧ ∃ v, (results fn a'.tmps).run P w' = .ok v w' ∧
  ∃ v' res B' ρ' Im', Ending.returned v = .returned v' ∧ R res B' ∧ AVR ρ' w'.heap Im' res v' ∧ Env (fun j => B'[j]?) ρ' Im' w'.heap ∧
   Ext w .nil (im0Of Im fr) (fun j => B'[j]?) ρ' Im' w' := by
  intro har
  obtain ⟨l, us, hpk, hrun, hl, hv⟩ := ares_sound hτ hR' fn.results.toList _ har
  refine ⟨hR'.defers, _, results_run hrun, ?_⟩
  have hres := oneOrTup_rel hl hv
  generalize oneOrTup l = res at hpk hres
  unfold pack at hpk
  rw [force_eq, forceIds_eq] at hpk
  unfold packL at hpk
  generalize nextIds S'.blk (nextIds S'.blk (addIds res.ids [])) = L at hpk
  cases hbs : blksOf S'.blk L L with
  | none => simp [hbs] at hpk
  | some bs =>
   simp only [hbs] at hpk
   obtain ⟨hnd, hlight, hRR⟩ := hpk
   obtain ⟨hbl, hbspec⟩ := blksOf_spec hbs
   have hnd' := nodupB_spec hnd
   have hE : Env (fun j => bs[j]?) (numR ρ' L) Im' w'.heap := numEnv hbs hnd hR'.env
   have hown : ∀ i r x, bs[i]? ≠ none → numR ρ' L i = some r → r.has x → w.heap.size ≤ x := by
    intro j r x hj hr hx
    have hjl : j < L.length := by
     by_cases hlt : j < bs.length
     · omega
     · exact absurd (List.getElem?_eq_none (Nat.le_of_not_lt hlt)) hj
    obtain ⟨b', h1, _⟩ := hbspec j _ (List.getElem?_eq_getElem hjl)
    have : numR ρ' L j = ρ' L[j] := by simp [numR, List.getElem?_eq_getElem hjl]
    rw [this] at hr
    exact (hR'.ext.own _ r x (by simp [h1]) hr hx).elim (fun h => h.elim) id
   cases fr with
   | false =>
    exact ⟨_, res.num L, bs, numR ρ' L, Im', rfl, hRR, hres.num, hE, ⟨fun i r x hi hr hx => .inr (hown i r x hi hr hx), hR'.ext.im0, hR'.ext.imNew, hR'.ext.keep, hR'.ext.frame, hR'.ext.grow, hR'.ext.os, hR'.ext.tape, hR'.ext.output, fun _ _ h => by cases h⟩⟩
   | true =>
    simp only [Bool.and_eq_true, List.all_eq_true] at hlight
    refine ⟨_, res.num L, bs, numR ρ' L, fun b o => Im' b o ∧ w.heap.size ≤ b, rfl, hRR, (hres.num (l := L)).light hlight.1, ?_, ⟨fun i r x hi hr hx => .inr (hown i r x hi hr hx), fun _ _ h => h.elim, fun _ _ h => .inr (.inr h.2), fun _ _ h => h.elim, hR'.ext.frame, hR'.ext.grow, hR'.ext.os, hR'.ext.tape, hR'.ext.output, fun _ _ h => by cases h⟩⟩
    refine ⟨fun j b hj => (hE.bl j b hj).light (hlight.2 b (List.mem_of_getElem? hj)), hE.inj, hE.fpNe, hE.fpLt, fun j r x o hj hr hx h => hE.fpIm j r x o hj hr hx h.1, fun b o h => hE.imlt b o h.1, fun j b r o hj hr => ?_⟩
    rw [← hE.imOwn j b r o hj hr]
    exact ⟨And.left, fun h => ⟨h, hown j r r.b (by simp [hj]) hr (.inl rfl)⟩⟩
 cases e with
 | normal => exact main hpost
 | ret => exact main hpost
 | exit i => exact hpost.elim
 | goto l => exact hpost.elim
/-! ### contracts of functions that are given blocks -/
def packG (S : AState) (_ : Nat) (R : AV → List Blk → Prop) (res : AV) (L : List Nat) : Prop :=
 match nodupB L with
 | true => match blksOf S.blk L L with
  | some bs => forceBs bs fun bs => force (res.num L) fun res => R res bs
  | none => False
 | false => False
def packK (S : AState) (k : Nat) (R : AV → List Blk → Prop) (res : AV) : Prop :=
 force res fun res => forceIds S.blk (addIds res.ids (upTo 900000 k)) fun L => packG S k R res L
def gpost (τ : Tys) (fn : Func) (k : Nat) (R : AV → List Blk → Prop) (e : AX) (S : AState) : Prop :=
 match e with
 | .normal => ares τ S fn.results.toList fun vs => packK S k R (oneOrTup vs)
 | .ret => ares τ S fn.results.toList fun vs => packK S k R (oneOrTup vs)
 | _ => False
def blkG (Bg : List Blk) : Nat → Option Blk := fun i => match Nat.ble 900000 i with
 | true => match Bg[i - 900000]? with
  | some b => some (b.ren Bg.length 900000)
  | none => none
 | false => none
theorem addIds_pre : ∀ (l acc : List Nat), ∃ m, addIds l acc = acc ++ m
 | [], acc => ⟨[], by simp [addIds]⟩
 | i :: l, acc => by
  simp only [addIds]
  split
  · exact addIds_pre l acc
  · obtain ⟨m, hm⟩ := addIds_pre l (acc ++ [i])
    exact ⟨i :: m, by rw [hm]; simp⟩
theorem nextIds_pre (blk : Nat → Option Blk) (l : List Nat) : ∃ m, nextIds blk l = l ++ m := addIds_pre _ _
theorem CallsG.of_awp (hτ : TysOk P τ) (hm : P.follows .mixedOrders = true) {f : FuncId} {fn : Func} {c : Code} {args : List AV} {Bg : List Blk} {k : Nat} {R : AV → List Blk → Prop} (hf : P.funcs[f]? = some fn) (hname : (fn.name == "runtime.NumGoroutine") = false)
 (hb : fn.body = some c) (hn : (Nat.ble args.length fn.ntmps && Nat.ble k Bg.length) = true)
 (h : awp P τ c ⟨fn.ntmps, fun t => (args.getD t .any).ren Bg.length 900000, blkG Bg⟩ (gpost τ fn k R)) : CallsG P f args Bg k R := by
 refine ⟨⟨fn, hf, hname, by rw [hb]; rfl⟩, fun w Im ρ vs hsz hargs hE hT0 => ?_⟩
 have hT : Nonempty (TabH w.heap Im) := ⟨hT0⟩
 refine calls_of_wp hf hb ?_
 simp only [Bool.and_eq_true] at hn
 have hn' := Nat.le_of_ble_eq_true hn.1
 have hk' := Nat.le_of_ble_eq_true hn.2
 obtain ⟨ρ0, hρ0⟩ : ∃ ρ0 : Rho, ρ0 = fun i => if 900000 ≤ i ∧ i < 900000 + Bg.length then ρ (i - 900000) else none := ⟨_, rfl⟩
 have hρ : ∀ j, j < Bg.length → ρ0 (900000 + j) = ρ j := fun j hj => by subst hρ0; simp [hj]
 have hblk : ∀ {i b}, blkG Bg i = some b → ∃ j b', i = 900000 + j ∧ j < Bg.length ∧ Bg[j]? = some b' ∧ b = b'.ren Bg.length 900000 := fun {i b} hi => by
  unfold blkG at hi
  cases hle : Nat.ble 900000 i with
  | false => simp [hle] at hi
  | true =>
   simp only [hle] at hi
   have := Nat.le_of_ble_eq_true hle
   cases hg : Bg[i - 900000]? with
   | none => simp [hg] at hi
   | some b' =>
    simp only [hg, Option.some.injEq] at hi
    exact ⟨i - 900000, b', by omega, (List.getElem?_eq_some_iff.1 hg).1, hg, hi.symm⟩
 obtain ⟨G, hG⟩ : ∃ G : GP, G = ⟨fun b => ∃ j r, j < Bg.length ∧ ρ j = some r ∧ r.has b, fun i => if 900000 ≤ i ∧ i < 900000 + Bg.length then some (ρ (i - 900000)) else none, fun i hi => if_neg (by omega)⟩ := ⟨_, rfl⟩
 have hE0 : Env (blkG Bg) ρ0 Im w.heap := by
  have get : ∀ {i r}, blkG Bg i ≠ none → ρ0 i = some r → ∃ j, i = 900000 + j ∧ Bg[j]? ≠ none ∧ ρ j = some r := fun {i r} hi hr => by
   have ⟨bi, hbi⟩ := Option.ne_none_iff_exists'.1 hi
   obtain ⟨i', bi', rfl, hi', hbi', _⟩ := hblk hbi
   rw [hρ _ hi'] at hr
   exact ⟨i', rfl, by simp [hbi'], hr⟩
  refine ⟨fun i b hi => ?_, fun i j r s x hi hj hr hs hx hy => ?_, fun i r hi hr => ?_, fun i r x hi hr hx => ?_, fun i r x o hi hr hx => ?_, hE.imlt, fun i b r o hi hr => ?_⟩
  · obtain ⟨j, b', rfl, hj, hb', rfl⟩ := hblk hi
    exact (hE.bl j b' hb').ren hρ hj
  · obtain ⟨i', rfl, h1, h2⟩ := get hi hr
    obtain ⟨j', rfl, h3, h4⟩ := get hj hs
    rw [hE.inj i' j' r s x h1 h3 h2 h4 hx hy]
  · obtain ⟨i', rfl, h1, h2⟩ := get hi hr
    exact hE.fpNe i' r h1 h2
  · obtain ⟨i', rfl, h1, h2⟩ := get hi hr
    exact hE.fpLt i' r x h1 h2 hx
  · obtain ⟨i', rfl, h1, h2⟩ := get hi hr
    exact hE.fpIm i' r x o h1 h2 hx
  · obtain ⟨j, b', rfl, hj, hb', rfl⟩ := hblk hi
    rw [hρ _ hj] at hr
    rw [Blk.ren_pinned]
    exact hE.imOwn j b' r o hb' hr
 have hR : Rel w G Im ⟨fn.ntmps, fun t => (args.getD t .any).ren Bg.length 900000, blkG Bg⟩ ρ0 Im { tmps := vs ++ Array.replicate (fn.ntmps - vs.size) undef, defers := [] } w := by
  refine ⟨rfl, by simp [hsz]; omega, fun t => ?_, hE0, ⟨fun i r x hi hr hx => .inl ?_, fun _ _ x => x, fun _ _ x => .inl x, fun _ _ _ => rfl, fun _ _ _ => rfl, Nat.le_refl _, rfl, rfl, rfl, fun i p hp hi => ?_⟩⟩
  · by_cases ht : t < args.length
    · have h1 := hargs t _ (List.getElem?_eq_getElem ht)
      have h2 : t < vs.size := by omega
      simp only [List.getD_eq_getElem?_getD, List.getElem?_eq_getElem ht, Option.getD_some, Array.getD_eq_getD_getElem?, Array.getElem?_append_left h2]
      rw [Array.getD_eq_getD_getElem?] at h1
      exact h1.ren hρ
    · have e : args.getD t .any = .any := by rw [List.getD_eq_getElem?_getD, List.getElem?_eq_none (by omega)]; rfl
      simp only [e]; exact .any _
  · have ⟨bi, hbi⟩ := Option.ne_none_iff_exists'.1 hi
    obtain ⟨i', bi', rfl, hi', hbi', _⟩ := hblk hbi
    rw [hρ _ hi'] at hr
    subst hG
    exact ⟨i', r, hi', hr, hx⟩
  · subst hG
    simp only at hp
    split at hp
    · rename_i hin
      cases hp
      subst hρ0
      simp [hin]
    · cases hp
 refine awp_sound (w0 := w) (G := G) (Im0 := Im) hτ hm c _ _ _ _ w h ⟨_, _, hR⟩ fun e S' a' w' hpost hRE => ?_
 obtain ⟨ρ', Im', hR'⟩ := hRE
 have main : ares τ S' fn.results.toList (fun vs => packK S' k R (oneOrTup vs)) → a'.defers = [] ∧ ∃ v, (results fn a'.tmps).run P w' = .ok v w' ∧
  ∃ v' res B' ρ' Im', Ending.returned v = .returned v' ∧ R res B' ∧ AVR ρ' w'.heap Im' res v' ∧ Env (fun j => B'[j]?) ρ' Im' w'.heap ∧
   (∀ j, j < k → j < B'.length ∧ ρ' j = ρ j) ∧ Ext w (.of Bg.length ρ) Im (fun j => B'[j]?) ρ' Im' w' := by
  intro har
  obtain ⟨l, us, hpk, hrun, hl, hv⟩ := ares_sound hτ hR' fn.results.toList _ har
  refine ⟨hR'.defers, _, results_run hrun, ?_⟩
  have hres := oneOrTup_rel hl hv
  generalize oneOrTup l = res at hpk hres
  unfold packK at hpk
  rw [force_eq, forceIds_eq] at hpk
  unfold packG at hpk
  have hpre : ∀ j, j < k → (nextIds S'.blk (nextIds S'.blk (addIds res.ids (upTo 900000 k))))[j]? = some (900000 + j) := fun j hj => by
   obtain ⟨m1, e1⟩ := addIds_pre res.ids (upTo 900000 k)
   obtain ⟨m2, e2⟩ := nextIds_pre S'.blk (addIds res.ids (upTo 900000 k))
   obtain ⟨m3, e3⟩ := nextIds_pre S'.blk (nextIds S'.blk (addIds res.ids (upTo 900000 k)))
   have hu := upTo_spec k 900000
   rw [e3, e2, e1, List.append_assoc, List.append_assoc, List.getElem?_append_left (by omega)]
   exact hu.2 j hj
  generalize nextIds S'.blk (nextIds S'.blk (addIds res.ids (upTo 900000 k))) = L at hpk hpre
  cases hnd : nodupB L with
  | false => simp [hnd] at hpk
  | true =>
  simp only [hnd] at hpk
  cases hbs : blksOf S'.blk L L with
  | none => simp [hbs] at hpk
  | some bs =>
   simp only [hbs, forceBs_eq, force_eq] at hpk
   obtain ⟨hbl, hbspec⟩ := blksOf_spec hbs
   have hE' := numEnv hbs hnd hR'.env
   have hGi : ∀ b, G b = (GP.of Bg.length ρ) b := fun b => by subst hG; rfl
   refine ⟨_, res.num L, bs, numR ρ' L, Im', rfl, hpk, hres.num, hE', fun j hj => ?_, ⟨fun j r x hj hr hx => ?_, hR'.ext.im0, fun b o h => by rw [← hGi]; exact hR'.ext.imNew b o h, hR'.ext.keep, fun b hb hnG => hR'.ext.frame b hb (by rw [hGi]; exact hnG), hR'.ext.grow, hR'.ext.os, hR'.ext.tape, hR'.ext.output, fun _ _ h => by cases h⟩⟩
   · have h1 := hpre j hj
     have hjl : j < L.length := (List.getElem?_eq_some_iff.1 h1).1
     refine ⟨by omega, ?_⟩
     obtain ⟨b', h2, _⟩ := hbspec j _ h1
     have e : numR ρ' L j = ρ' (900000 + j) := by simp [numR, h1]
     rw [e]
     refine hR'.ext.pin (900000 + j) (ρ j) ?_ (by simp [h2])
     subst hG
     simp; omega
   · have hjl : j < L.length := by
      by_cases hlt : j < bs.length
      · omega
      · exact absurd (List.getElem?_eq_none (Nat.le_of_not_lt hlt)) hj
     obtain ⟨b', h1, _⟩ := hbspec j _ (List.getElem?_eq_getElem hjl)
     have : numR ρ' L j = ρ' L[j] := by simp [numR, List.getElem?_eq_getElem hjl]
     rw [this] at hr
     rw [← hGi]
     exact hR'.ext.own _ r x (by simp [h1]) hr hx
 cases e with
 | normal => exact main hpost
 | ret => exact main hpost
 | exit i => exact hpost.elim
 | goto l => exact hpost.elim
end
end Vg
