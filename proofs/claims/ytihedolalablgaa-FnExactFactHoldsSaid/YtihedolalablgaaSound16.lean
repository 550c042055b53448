/- A function's contract out of its body. -/
import Derived.Test.YtihedolalablgaaCode
namespace Vg
open Go

def ares (τ : Tys) (S : AState) : List ResultVar → (List AV → Prop) → Prop
  | [], K => K []
  | .tmp t :: rs, K => ares τ S rs fun l => K (S.tm t :: l)
  | .cell a T :: rs, K => match τ T with
    | some i => aload i S.blk (S.tm a) fun v => ares τ S rs fun l => K (v :: l)
    | none => False

def oneOrTup : List AV → AV
  | [v] => v
  | l => .tup l

def AV.idsC : AV → List Nat
  | .row i => [i]
  | .ptr i _ => [i]
  | .rptr i _ _ _ => [i]
  | _ => []
def AV.idsM : AV → List Nat
  | .agg l => l.flatMap AV.idsC
  | .fn _ l => l.flatMap AV.idsC
  | v => v.idsC
def AV.ids : AV → List Nat
  | .tup l => l.flatMap AV.idsM
  | v => v.idsM
def Blk.ids : Blk → List Nat
  | .box cells => cells.flatMap AV.idsC
  | .row _ _ _ _ => []
def memB (i : Nat) : List Nat → Bool
  | [] => false
  | j :: l => match Nat.beq i j with | true => true | false => memB i l
def addIds : List Nat → List Nat → List Nat
  | [], acc => acc
  | i :: l, acc => match memB i acc with | true => addIds l acc | false => addIds l (acc ++ [i])
def nextIds (blk : Nat → Option Blk) (l : List Nat) : List Nat :=
  addIds (l.flatMap fun i => match blk i with | some b => b.ids | none => []) l
def idsOf (blk : Nat → Option Blk) (v : AV) : List Nat := nextIds blk (nextIds blk (addIds v.ids []))

def idx (i : Nat) : List Nat → Nat → Option Nat
  | [], _ => none
  | j :: l, k => match Nat.beq i j with | true => some k | false => idx i l (k + 1)
def AV.numC (l : List Nat) : AV → AV
  | .row j => match idx j l 0 with | some k => .row k | none => .cell
  | .ptr j o => match idx j l 0 with | some k => .ptr k o | none => .cell
  | .rptr j a b c => match idx j l 0 with | some k => .rptr k a b c | none => .cell
  | .dat d => .dat d
  | .nils => .nils
  | .eptr κ x j => .eptr κ x j
  | .cell => .cell
  | _ => .any
def AV.numM (l : List Nat) : AV → AV
  | .agg vs => .agg (vs.map (AV.numC l))
  | .fn f vs => .fn f (vs.map (AV.numC l))
  | v => v.numC l
def AV.num (l : List Nat) : AV → AV
  | .tup vs => .tup (vs.map (AV.numM l))
  | v => v.numM l
def Blk.num (l : List Nat) : Blk → Blk
  | .box cells => .box (cells.map (AV.numC l))
  | b => b
def blksOf (blk : Nat → Option Blk) (l : List Nat) : List Nat → Option (List Blk)
  | [] => some []
  | i :: r => match blk i with
    | some b => match blksOf blk l r with
      | some bs => some (b.num l :: bs)
      | none => none
    | none => none
def nodupB : List Nat → Bool
  | [] => true
  | i :: l => match memB i l with | true => false | false => nodupB l

def AV.lightC : AV → Bool
  | .dat d => d.flat
  | .nils => true
  | .cell => true
  | .any => true
  | .row _ => true
  | .ptr _ _ => true
  | .rptr _ _ _ _ => true
  | _ => false
def AV.lightM : AV → Bool
  | .agg l => l.all AV.lightC
  | v => v.lightC
def AV.light : AV → Bool
  | .tup l => l.all AV.lightM
  | v => v.lightM
def Blk.light : Blk → Bool
  | .box cells => cells.all AV.lightC
  | .row _ κ _ _ => κ.flat

def pack (S : AState) (fr : Bool) (R : AV → List Blk → Prop) (res : AV) : Prop :=
  match blksOf S.blk (idsOf S.blk res) (idsOf S.blk res) with
  | some bs => nodupB (idsOf S.blk res) = true ∧ (match fr with | true => (res.num (idsOf S.blk res)).light && bs.all Blk.light | false => true) = true ∧ R (res.num (idsOf S.blk res)) bs
  | none => False

/-- what is asked at a function's end -/
def fpost (τ : Tys) (fn : Func) (fr : Bool) (R : AV → List Blk → Prop) (e : AX) (S : AState) : Prop :=
  match e with
  | .normal => ares τ S fn.results.toList fun vs => pack S fr R (oneOrTup vs)
  | .ret => ares τ S fn.results.toList fun vs => pack S fr R (oneOrTup vs)
  | _ => False

section
variable {P : Program} {τ : Tys} {Im Im' : Nat → Nat → Prop} {ρ ρ' ρ2 : Rho} {h h' : Array Obj} {w w' : World}
variable {w0 : World} {G : Nat → Prop} {Im0 : Nat → Nat → Prop} {S : AState} {a : Act} {n : Nat} {tm : Nat → AV} {blk : Nat → Option Blk}

theorem idx_spec {i : Nat} : ∀ {l : List Nat} {k j : Nat}, idx i l k = some j → k ≤ j ∧ l[j - k]? = some i
  | [], k, j, h => by simp [idx] at h
  | x :: l, k, j, h => by
    simp only [idx] at h
    cases hb : Nat.beq i x with
    | true =>
      simp only [hb] at h
      cases h
      have := Nat.eq_of_beq_eq_true hb
      subst this
      exact ⟨Nat.le_refl _, by simp⟩
    | false =>
      simp only [hb] at h
      obtain ⟨h1, h2⟩ := idx_spec h
      refine ⟨by omega, ?_⟩
      rw [show j - k = (j - (k + 1)) + 1 from by omega]
      exact h2

/-- the places of the blocks by their new numbers -/
def numR (ρ : Rho) (l : List Nat) : Rho := fun j => match l[j]? with | some i => ρ i | none => none

theorem numR_of {l : List Nat} {i k : Nat} (hk : idx i l 0 = some k) : numR ρ l k = ρ i := by
  have := (idx_spec hk).2
  rw [Nat.sub_zero] at this
  simp [numR, this]

theorem AVR.numC {l : List Nat} {x : AV} {v : Value} (hr : AVR ρ h Im x v) : AVR (numR ρ l) h Im (x.numC l) v := by
  cases hr with
  | any v => exact .any v
  | cell v hv => exact .cell v hv
  | dat d v hd => exact .dat d v hd
  | nils => exact .nils
  | eptr κ x j b o cf him hc hr => exact .eptr κ x j b o cf him hc hr
  | row j r hi =>
    simp only [AV.numC]; split
    · rename_i k hk; exact .row _ r (by rw [numR_of hk]; exact hi)
    · exact .cell _ rfl
  | rowN j hi =>
    simp only [AV.numC]; split
    · rename_i k hk; exact .rowN _ (by rw [numR_of hk]; exact hi)
    · exact .cell _ rfl
  | ptr j off r hi =>
    simp only [AV.numC]; split
    · rename_i k hk; exact .ptr _ off r (by rw [numR_of hk]; exact hi)
    · exact .cell _ rfl
  | rptr j a b c r hi =>
    simp only [AV.numC]; split
    · rename_i k hk; exact .rptr _ a b c r (by rw [numR_of hk]; exact hi)
    · exact .cell _ rfl
  | agg => exact .any _
  | tup => exact .any _
  | fn => exact .any _

theorem mapR {f : AV → AV} (hf : ∀ x v, AVR ρ h Im x v → AVR ρ2 h Im (f x) v) {l : List AV} {cf : Nat → Value} (hr : ∀ j a, l[j]? = some a → AVR ρ h Im a (cf j)) :
    ∀ j a, (l.map f)[j]? = some a → AVR ρ2 h Im a (cf j) := by
  intro j a ha
  rw [List.getElem?_map] at ha
  cases hl : l[j]? with
  | none => simp [hl] at ha
  | some b => simp [hl] at ha; subst ha; exact hf _ _ (hr j b hl)

theorem AVR.numM {l : List Nat} {x : AV} {v : Value} (hr : AVR ρ h Im x v) : AVR (numR ρ l) h Im (x.numM l) v := by
  cases hr with
  | agg vs cs cf hl hcf hr => exact .agg _ cs cf (by simpa using hl) (by simpa using hcf) (mapR (fun _ _ => AVR.numC) hr)
  | fn f vs cs cf hl hcf hr => exact .fn f _ cs cf (by simpa using hl) (by simpa using hcf) (mapR (fun _ _ => AVR.numC) hr)
  | tup vs cs cf hl hcf hr => exact .any _
  | any v => exact AVR.numC (.any v)
  | cell v hv => exact AVR.numC (.cell v hv)
  | dat d v hd => exact AVR.numC (.dat d v hd)
  | nils => exact AVR.numC .nils
  | eptr κ x j b o cf him hc hr => exact AVR.numC (.eptr κ x j b o cf him hc hr)
  | row j r hi => exact AVR.numC (.row j r hi)
  | rowN j hi => exact AVR.numC (.rowN j hi)
  | ptr j off r hi => exact AVR.numC (.ptr j off r hi)
  | rptr j k' o sz r hi => exact AVR.numC (.rptr j k' o sz r hi)
theorem AVR.num {l : List Nat} {x : AV} {v : Value} (hr : AVR ρ h Im x v) : AVR (numR ρ l) h Im (x.num l) v := by
  cases hr with
  | tup vs cs cf hl hcf hr => exact .tup _ cs cf (by simpa using hl) (by simpa using hcf) (mapR (fun _ _ => AVR.numM) hr)
  | agg vs cs cf hl hcf hr => exact AVR.numM (.agg vs cs cf hl hcf hr)
  | fn f vs cs cf hl hcf hr => exact AVR.numM (.fn f vs cs cf hl hcf hr)
  | any v => exact AVR.numC (.any v)
  | cell v hv => exact AVR.numC (.cell v hv)
  | dat d v hd => exact AVR.numC (.dat d v hd)
  | nils => exact AVR.numC .nils
  | eptr κ x j b o cf him hc hr => exact AVR.numC (.eptr κ x j b o cf him hc hr)
  | row j r hi => exact AVR.numC (.row j r hi)
  | rowN j hi => exact AVR.numC (.rowN j hi)
  | ptr j off r hi => exact AVR.numC (.ptr j off r hi)
  | rptr j k' o sz r hi => exact AVR.numC (.rptr j k' o sz r hi)

theorem BlkR.num {l : List Nat} {i k : Nat} {b : Blk} (hk : l[k]? = some i) (hB : BlkR ρ h Im i b) : BlkR (numR ρ l) h Im k (b.num l) := by
  have e : numR ρ l k = ρ i := by simp [numR, hk]
  cases b with
  | box cells =>
    obtain ⟨r, cs, T, hr, hh, hsz, hcs⟩ := hB
    refine ⟨r, cs, T, e.trans hr, hh, by simpa using hsz, fun j x hx => ?_⟩
    rw [List.getElem?_map] at hx
    cases hl : cells[j]? with
    | none => simp [hl] at hx
    | some y =>
      simp [hl] at hx; subst hx
      obtain ⟨c, h1, h2⟩ := hcs j y hl
      exact ⟨c, h1, h2.numC⟩
  | row T κ l' sh =>
    simp only [BlkR, Blk.num] at hB ⊢
    rw [e]; exact hB

theorem blksOf_spec {l : List Nat} : ∀ {r : List Nat} {bs : List Blk}, blksOf blk l r = some bs → bs.length = r.length ∧ ∀ (k i : Nat), r[k]? = some i → ∃ b, blk i = some b ∧ bs[k]? = some (b.num l)
  | [], bs, h => by simp [blksOf] at h; subst h; simp
  | i :: r, bs, h => by
    simp only [blksOf] at h
    cases hb : blk i with
    | none => simp [hb] at h
    | some b =>
      simp only [hb] at h
      cases hr : blksOf blk l r with
      | none => simp [hr] at h
      | some bs' =>
        simp [hr] at h; subst h
        obtain ⟨h1, h2⟩ := blksOf_spec hr
        refine ⟨by simp [h1], fun k j hk => ?_⟩
        cases k with
        | zero => simp at hk; subst hk; exact ⟨b, hb, rfl⟩
        | succ k => simp at hk; simpa using h2 k j hk

theorem memB_spec {i : Nat} : ∀ {l : List Nat}, memB i l = false → i ∉ l
  | [], _ => by simp
  | j :: l, h => by
    simp only [memB] at h
    cases hb : Nat.beq i j with
    | true => simp [hb] at h
    | false =>
      simp only [hb] at h
      have h1 := memB_spec h
      have h2 : i ≠ j := fun e => by subst e; simp at hb
      simp [h1, h2]
theorem nodupB_spec : ∀ {l : List Nat}, nodupB l = true → ∀ (j k i : Nat), l[j]? = some i → l[k]? = some i → j = k
  | [], _, j, k, i, h, _ => by simp at h
  | x :: l, hn, j, k, i, h1, h2 => by
    simp only [nodupB] at hn
    cases hm : memB x l with
    | true => simp [hm] at hn
    | false =>
      simp only [hm] at hn
      have hx := memB_spec hm
      cases j with
      | zero =>
        cases k with
        | zero => rfl
        | succ k => simp at h1 h2; subst h1; exact absurd (List.mem_of_getElem? h2) hx
      | succ j =>
        cases k with
        | zero => simp at h1 h2; subst h2; exact absurd (List.mem_of_getElem? h1) hx
        | succ k => simp at h1 h2; rw [nodupB_spec hn j k i h1 h2]

theorem K.flat_enc {κ : K} (hf : κ.flat = true) (x : κ.T) (j : Nat) : ((κ.enc x).getD j (.bool false)).flat = true := by
  have all : ∀ d ∈ κ.enc x, d.flat = true := by
    cases κ <;> first | (simp [K.flat] at hf; done) | (intro d hd; simp [K.enc] at hd; rcases hd with rfl | rfl | rfl | rfl <;> rfl) | (intro d hd; simp [K.enc] at hd; subst hd; rfl)
  rw [List.getD_eq_getElem?_getD]
  cases h : (κ.enc x)[j]? with
  | none => rfl
  | some d => exact all d (List.mem_of_getElem? h)

theorem AVR.lightC {a : AV} {v : Value} (hf : a.lightC = true) (hr : AVR ρ h Im a v) : AVR ρ h Im' a v := by
  cases hr with
  | dat d v hd => exact .dat d v (hd.flat hf)
  | nils => exact .nils
  | cell v hv => exact .cell v hv
  | any v => exact .any v
  | row i r hi => exact .row i r hi
  | rowN i hi => exact .rowN i hi
  | ptr i o r hi => exact .ptr i o r hi
  | rptr i k j sz r hi => exact .rptr i k j sz r hi
  | _ => simp [AV.lightC] at hf
theorem AVR.lightM {a : AV} {v : Value} (hf : a.lightM = true) (hr : AVR ρ h Im a v) : AVR ρ h Im' a v := by
  cases hr with
  | agg l cs cf hl hcf hr =>
    simp only [AV.lightM, List.all_eq_true] at hf
    exact .agg l cs cf hl hcf (fun j a ha => (hr j a ha).lightC (hf a (List.mem_of_getElem? ha)))
  | dat d v hd => exact .dat d v (hd.flat hf)
  | nils => exact .nils
  | cell v hv => exact .cell v hv
  | any v => exact .any v
  | row i r hi => exact .row i r hi
  | rowN i hi => exact .rowN i hi
  | ptr i o r hi => exact .ptr i o r hi
  | rptr i k j sz r hi => exact .rptr i k j sz r hi
  | _ => simp [AV.lightM, AV.lightC] at hf
theorem AVR.light {a : AV} {v : Value} (hf : a.light = true) (hr : AVR ρ h Im a v) : AVR ρ h Im' a v := by
  cases hr with
  | tup l cs cf hl hcf hr =>
    simp only [AV.light, List.all_eq_true] at hf
    exact .tup l cs cf hl hcf (fun j a ha => (hr j a ha).lightM (hf a (List.mem_of_getElem? ha)))
  | agg l cs cf hl hcf hr => exact (AVR.agg l cs cf hl hcf hr).lightM hf
  | dat d v hd => exact .dat d v (hd.flat hf)
  | nils => exact .nils
  | cell v hv => exact .cell v hv
  | any v => exact .any v
  | row i r hi => exact .row i r hi
  | rowN i hi => exact .rowN i hi
  | ptr i o r hi => exact .ptr i o r hi
  | rptr i k j sz r hi => exact .rptr i k j sz r hi
  | _ => simp [AV.light, AV.lightM, AV.lightC] at hf
theorem BlkR.light {i : Nat} {b : Blk} (hf : b.light = true) (hB : BlkR ρ h Im i b) : BlkR ρ h Im' i b := by
  cases b with
  | box cells =>
    obtain ⟨r, cs, T, hr, hh, hsz, hcs⟩ := hB
    refine ⟨r, cs, T, hr, hh, hsz, fun j x hx => ?_⟩
    obtain ⟨c, h1, h2⟩ := hcs j x hx
    simp only [Blk.light, List.all_eq_true] at hf
    exact ⟨c, h1, h2.lightC (hf x (List.mem_of_getElem? hx))⟩
  | row T κ l sh =>
    simp only [BlkR] at hB ⊢
    cases hr : ρ i with
    | none => rw [hr] at hB; exact hB
    | some r =>
      rw [hr] at hB
      obtain ⟨h1, h2, h3, cs, hh, hsz, hcs⟩ := hB
      exact ⟨h1, h2, h3, cs, hh, hsz, fun k j hk hj => let ⟨c, hc1, hc2⟩ := hcs k j hk hj; ⟨c, hc1, hc2.flat (K.flat_enc hf _ _)⟩⟩

def resGet (tmps : Array Value) : ResultVar → Sem Value
  | .tmp t => pure (tmps.getD t undef)
  | .cell x T => do loadVar T (← asAddr (tmps.getD x undef))
def valOf : List Value → Value
  | [v] => v
  | vs => .tuple vs.toArray

theorem ares_sound (hτ : TysOk P τ) (hR : Rel w0 G Im0 S ρ Im a w) : ∀ (rs : List ResultVar) (K : List AV → Prop), ares τ S rs K →
    ∃ (l : List AV) (vs : List Value), K l ∧ (rs.mapM (resGet a.tmps)).run P w = .ok vs w ∧
      vs.length = l.length ∧ ∀ j x, l[j]? = some x → AVR ρ w.heap Im x (vs.getD j undef)
  | [], K, h => ⟨[], [], h, by simp, rfl, by simp⟩
  | .tmp t :: rs, K, h => by
    simp only [ares] at h
    obtain ⟨l, vs, hK, hr, hl, hv⟩ := ares_sound hτ hR rs _ h
    refine ⟨_, a.tmps.getD t undef :: vs, hK, ?_, by simp [hl], fun j x hx => ?_⟩
    · rw [List.mapM_cons]
      simp only [Sem.run_bind, resGet, Sem.run_pure, Result.andThen_ok, hr]
    cases j with
    | zero => simp at hx; subst hx; exact hR.tm t
    | succ j => simp at hx; simpa using hv j x hx
  | .cell y T :: rs, K, h => by
    simp only [ares] at h
    cases hT : τ T with
    | none => simp [hT] at h
    | some i =>
      simp only [hT] at h
      have hp := hR.tm y
      obtain ⟨av, h1, _, u, hu, hav⟩ := aload_sound (hτ T i hT) hR.env hp h
      obtain ⟨l, vs, hK, hr, hl, hv⟩ := ares_sound hτ hR rs _ h1
      have hrun : ((asAddr (a.tmps.getD y undef)).run P w).andThen (fun x w' => (loadVar T x).run P w') = .ok u w := by
        revert hu
        generalize a.tmps.getD y undef = vv
        intro hu
        simp only [Instr.loadAt, Sem.run_bind] at hu
        cases vv with
        | pointer p =>
          cases p with
          | some p => exact hu
          | none => simp [Instr.sureAddr] at hu
        | _ => simp [Instr.sureAddr] at hu
      refine ⟨_, u :: vs, hK, ?_, by simp [hl], fun j x hx => ?_⟩
      · rw [List.mapM_cons]
        simp only [Sem.run_bind, resGet, hrun, Result.andThen_ok, hr, Sem.run_pure]
      · cases j with
        | zero => simp at hx; subst hx; exact hav
        | succ j => simp at hx; simpa using hv j x hx

theorem results_run {fn : Func} {tmps : Array Value} {vs : List Value} (h : (fn.results.toList.mapM (resGet tmps)).run P w = .ok vs w) : (results fn tmps).run P w = .ok (valOf vs) w := by
  have e : results fn tmps = (do let vs ← fn.results.mapM (resGet tmps); pure (if h : vs.size = 1 then vs[0] else .tuple vs)) := by
    unfold results
    congr 1
  rw [e, Array.mapM_eq_mapM_toList]
  simp only [Sem.run_bind, Sem.run_map, h, Result.andThen_ok, Sem.run_pure]
  cases vs with
  | nil => rfl
  | cons v vs => cases vs with
    | nil => rfl
    | cons u vs => rfl

theorem oneOrTup_rel {l : List AV} {vs : List Value} (hl : vs.length = l.length) (hv : ∀ j x, l[j]? = some x → AVR ρ h Im x (vs.getD j undef)) :
    AVR ρ h Im (oneOrTup l) (valOf vs) := by
  have tup : AVR ρ h Im (.tup l) (.tuple vs.toArray) := by
    refine .tup l _ (fun j => vs.getD j undef) (by simpa using hl) (fun j hj => ?_) hv
    have : j < vs.length := by omega
    simp [List.getD_eq_getElem?_getD, this]
  match l, vs, hl with
  | [x], [v], _ => exact hv 0 x rfl
  | [], [], _ => exact tup
  | x :: y :: l, v :: u :: vs, _ => exact tup

theorem CallsF.of_awp (hτ : TysOk P τ) (hm : P.follows .mixedOrders = true) {f : FuncId} {fn : Func} {c : Code} {args : List AV} {fr : Bool} {R : AV → List Blk → Prop} (hf : P.funcs[f]? = some fn) (hname : (fn.name == "runtime.NumGoroutine") = false)
    (hb : fn.body = some c) (hn : Nat.ble args.length fn.ntmps = true)
    (h : awp P τ c ⟨fn.ntmps, fun t => args.getD t .any, fun _ => none⟩ (fpost τ fn fr R)) : CallsF P f args fr R := by
  refine ⟨⟨fn, hf, hname, by rw [hb]; rfl⟩, fun w Im vs hsz hargs him => ?_⟩
  refine calls_of_wp hf hb ?_
  have hn' := Nat.le_of_ble_eq_true hn
  have hR : Rel w (fun _ => False) Im ⟨fn.ntmps, fun t => args.getD t .any, fun _ => none⟩ (fun _ => none) Im { tmps := vs ++ Array.replicate (fn.ntmps - vs.size) undef, defers := [] } w := by
    refine ⟨rfl, by simp [hsz]; omega, fun t => ?_, ⟨fun i b hi => (by cases hi), fun i j r s hi => absurd rfl hi, him, fun i b r o hi => (by cases hi)⟩,
      ⟨fun i r hi => absurd rfl hi, fun _ _ x => x, fun _ _ x => .inl x, fun _ _ _ => rfl, fun _ _ _ => rfl, Nat.le_refl _, rfl, rfl, rfl⟩⟩
    by_cases ht : t < args.length
    · have h1 := hargs t _ (List.getElem?_eq_getElem ht)
      have h2 : t < vs.size := by omega
      simp only [List.getD_eq_getElem?_getD, List.getElem?_eq_getElem ht, Option.getD_some, Array.getD_eq_getD_getElem?, Array.getElem?_append_left h2]
      rwa [Array.getD_eq_getD_getElem?] at h1
    · have e : args.getD t .any = .any := by rw [List.getD_eq_getElem?_getD, List.getElem?_eq_none (by omega)]; rfl
      simp only [e]; exact .any _
  refine awp_sound (w0 := w) (G := fun _ => False) (Im0 := Im) hτ hm c _ _ _ _ w h ⟨_, _, hR⟩ fun e S' a' w' hpost hRE => ?_
  obtain ⟨ρ', Im', hR'⟩ := hRE
  have main : ares τ S' fn.results.toList (fun vs => pack S' fr R (oneOrTup vs)) → a'.defers = [] ∧ ∃ v, (results fn a'.tmps).run P w' = .ok v w' ∧
      ∃ v' res B' ρ' Im', Ending.returned v = .returned v' ∧ R res B' ∧ AVR ρ' w'.heap Im' res v' ∧ Env (fun j => B'[j]?) ρ' Im' w'.heap ∧
        Ext w (fun _ => False) (im0Of Im fr) (fun j => B'[j]?) ρ' Im' w' := by
    intro har
    obtain ⟨l, us, hpk, hrun, hl, hv⟩ := ares_sound hτ hR' fn.results.toList _ har
    refine ⟨hR'.defers, _, results_run hrun, ?_⟩
    have hres := oneOrTup_rel hl hv
    generalize oneOrTup l = res at hpk hres
    unfold pack at hpk
    generalize idsOf S'.blk res = L at hpk
    cases hbs : blksOf S'.blk L L with
    | none => simp [hbs] at hpk
    | some bs =>
      simp only [hbs] at hpk
      obtain ⟨hnd, hlight, hRR⟩ := hpk
      obtain ⟨hbl, hbspec⟩ := blksOf_spec hbs
      have hnd' := nodupB_spec hnd
      -- the blocks by their new numbers
      have hE : Env (fun j => bs[j]?) (numR ρ' L) Im' w'.heap := by
        have get : ∀ {j b}, bs[j]? = some b → ∃ i b', L[j]? = some i ∧ S'.blk i = some b' ∧ b = b'.num L := fun {j b} hj => by
          have hjl : j < L.length := by have := (List.getElem?_eq_some_iff.1 hj).1; omega
          obtain ⟨b', h1, h2⟩ := hbspec j _ (List.getElem?_eq_getElem hjl)
          rw [hj] at h2; cases h2
          exact ⟨_, b', List.getElem?_eq_getElem hjl, h1, rfl⟩
        have nR : ∀ {j i}, L[j]? = some i → numR ρ' L j = ρ' i := fun {j i} hj => by simp [numR, hj]
        refine ⟨fun j b hj => ?_, fun j k r s hj hk hr hs hb => ?_, hR'.env.imlt, fun j b r o hj hr => ?_⟩
        · obtain ⟨i, b', h1, h2, rfl⟩ := get hj
          exact (hR'.env.bl i b' h2).num h1
        · cases hbj : bs[j]? with
          | none => exact absurd hbj hj
          | some bj =>
            cases hbk : bs[k]? with
            | none => exact absurd hbk hk
            | some bk =>
              obtain ⟨i, b', h1, h2, _⟩ := get hbj
              obtain ⟨i', b'', h1', h2', _⟩ := get hbk
              rw [nR h1] at hr
              rw [nR h1'] at hs
              have := hR'.env.inj i i' r s (by simp [h2]) (by simp [h2']) hr hs hb
              subst this
              exact hnd' j k i h1 h1'
        · obtain ⟨i, b', h1, h2, rfl⟩ := get hj
          rw [nR h1] at hr
          have : (b'.num L).pinned = b'.pinned := by cases b' <;> rfl
          rw [this]
          exact hR'.env.imOwn i b' r o h2 hr
      have hown : ∀ i r, bs[i]? ≠ none → numR ρ' L i = some r → w.heap.size ≤ r.b := by
        intro j r hj hr
        have hjl : j < L.length := by
          by_cases hlt : j < bs.length
          · omega
          · exact absurd (List.getElem?_eq_none (Nat.le_of_not_lt hlt)) hj
        obtain ⟨b', h1, _⟩ := hbspec j _ (List.getElem?_eq_getElem hjl)
        have : numR ρ' L j = ρ' L[j] := by simp [numR, List.getElem?_eq_getElem hjl]
        rw [this] at hr
        exact (hR'.ext.own _ r (by simp [h1]) hr).elim (fun h => h.elim) id
      cases fr with
      | false =>
        exact ⟨_, res.num L, bs, numR ρ' L, Im', rfl, hRR, hres.num, hE, ⟨fun i r hi hr => .inr (hown i r hi hr), hR'.ext.im0, hR'.ext.imNew, hR'.ext.keep, hR'.ext.frame, hR'.ext.grow, hR'.ext.os, hR'.ext.tape, hR'.ext.output⟩⟩
      | true =>
        simp only [Bool.and_eq_true, List.all_eq_true] at hlight
        refine ⟨_, res.num L, bs, numR ρ' L, fun b o => Im' b o ∧ w.heap.size ≤ b, rfl, hRR, (hres.num (l := L)).light hlight.1, ?_, ⟨fun i r hi hr => .inr (hown i r hi hr), fun _ _ h => h.elim, fun _ _ h => .inr (.inr h.2), fun _ _ h => h.elim, hR'.ext.frame, hR'.ext.grow, hR'.ext.os, hR'.ext.tape, hR'.ext.output⟩⟩
        refine ⟨fun j b hj => (hE.bl j b hj).light (hlight.2 b (List.mem_of_getElem? hj)), hE.inj, fun b o h => hE.imlt b o h.1, fun j b r o hj hr => ?_⟩
        rw [← hE.imOwn j b r o hj hr]
        exact ⟨And.left, fun h => ⟨h, hown j r (by simp [hj]) hr⟩⟩
  cases e with
  | normal => exact main hpost
  | ret => exact main hpost
  | exit i => exact hpost.elim
  | goto l => exact hpost.elim
end
end Vg
