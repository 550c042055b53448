/- Calls: what a contract gives the caller. -/
import Derived.Test.YtjmgoefijnnooaaSound5
namespace Vg
open Go

section
variable {P : Program} {τ : Tys} {Im Im' : Nat → Nat → Prop} {B : Nat → Option Blk} {ρ ρ' : Rho} {h h' : Array Obj} {w w' : World}

/-- the rows lent to a call besides -/
def lent (B : Nat → Option Blk) (ρ : Rho) (Im : Nat → Nat → Prop) : Bool → Nat → Nat → Prop
  | false => Im
  | true => fun b o => Im b o ∨ (∃ i T κ l sh r, B i = some (.row T κ l sh) ∧ ρ i = some r ∧ b = r.b ∧ o < l.length * κ.sz) ∨ ∃ i T κ l r, B i = some (.tree T κ l) ∧ ρ i = some r ∧ r.has b

theorem lent_of (B : Nat → Option Blk) (ρ : Rho) (c : Bool) {b o : Nat} (hI : Im b o) : lent B ρ Im c b o := by cases c <;> first | exact hI | exact .inl hI
theorem lent_or {c d : Bool} {b o : Nat} (hI : lent B ρ Im c b o) : lent B ρ Im (c || d) b o := by
  cases c <;> cases d <;> first | exact hI | exact .inl hI
theorem lent_or' {c d : Bool} {b o : Nat} (hI : lent B ρ Im d b o) : lent B ρ Im (c || d) b o := by
  cases c <;> cases d <;> first | exact hI | exact .inl hI
theorem lent_lt (E : Env B ρ Im h) (c : Bool) {b o : Nat} (hI : lent B ρ Im c b o) : b < h.size := by
  cases c with
  | false => exact E.imlt b o hI
  | true =>
    rcases hI with hI | ⟨i, T, κ, l, sh, r, hB, hr, rfl, _⟩ | ⟨i, T, κ, l, r, hB, hr, hx⟩
    · exact E.imlt b o hI
    · have := E.bl i _ hB
      simp only [BlkR, hr] at this
      obtain ⟨_, _, _, cs, T0, hh, _⟩ := this
      exact (Array.getElem?_eq_some_iff.1 hh).1
    · exact E.lt (by simp [hB]) hr hx

/-- a tree, read as a datum -/
theorem tree_dat {i T : Nat} {κ : K} {l : List κ.T} {v : Value} (E : Env B ρ Im h) (hB : B i = some (.tree T κ l)) (hv : AVR ρ h Im (.row i) v)
    (hl : ∀ r x o, ρ i = some r → r.has x → Im' x o) : RepD h Im' (.seq κ l) v := by
  have hb := E.bl i _ hB
  cases hv with
  | row _ r hi =>
    simp only [BlkR, hi] at hb
    obtain ⟨h1, h2, h3, cs, Fk, T0, hh, hsz, hF, _, hcs⟩ := hb
    rw [h1]
    refine .seq κ l r.b 0 r.cap (fun k j => cs.getD (k * κ.sz + j) undef) (by omega) h3 (fun k j hk hj => hl r _ _ hi (.inl rfl)) (fun k j hk hj => ?_) (fun k j hk hj => ?_)
    · obtain ⟨c, hc1, _⟩ := hcs k j hk hj
      simp [hcell, hh, hc1]
    · obtain ⟨c, hc1, hc2⟩ := hcs k j hk hj
      simp only [Array.getD_eq_getD_getElem?, hc1, Option.getD_some]
      exact hc2.melt fun x o hx => hl r x o hi (.inr (hF k j x hk hj hx).1)
  | rowN _ hi =>
    simp only [BlkR, hi] at hb
    exact .empty κ l hb none 0

/-- a row, read as a datum -/
theorem row_dat {i T : Nat} {κ : K} {l : List κ.T} {sh : Bool} {v : Value} (E : Env B ρ Im h) (hB : B i = some (.row T κ l sh)) (hv : AVR ρ h Im (.row i) v)
    (hI : ∀ b o, Im b o → Im' b o) (hl : ∀ r o, ρ i = some r → o < l.length * κ.sz → Im' r.b o) : RepD h Im' (.seq κ l) v := by
  have hb := E.bl i _ hB
  cases hv with
  | row _ r hi =>
    simp only [BlkR, hi] at hb
    obtain ⟨h1, h2, h3, cs, T0, hh, hsz, hcs⟩ := hb
    rw [h1]
    refine .seq κ l r.b 0 r.cap (fun k j => cs.getD (k * κ.sz + j) undef) (by omega) h3 (fun k j hk hj => ?_) (fun k j hk hj => ?_) (fun k j hk hj => ?_)
    · refine hl r _ hi ?_
      have : (k + 1) * κ.sz ≤ l.length * κ.sz := Nat.mul_le_mul_right _ hk
      rw [Nat.add_mul] at this; omega
    · obtain ⟨c, hc1, _⟩ := hcs k j hk hj
      simp [hcell, hh, hc1]
    · obtain ⟨c, hc1, hc2⟩ := hcs k j hk hj
      simp only [Array.getD_eq_getD_getElem?, hc1, Option.getD_some]
      exact hc2.mono (fun _ _ _ => rfl) hI
  | rowN _ hi =>
    simp only [BlkR, hi] at hb
    exact .empty κ l hb none 0

theorem datP_sound (E : Env B ρ Im h) {z d : Dat} {v : AV} {u : Value} {c : Bool} (hd : datP B z v = some (d, c)) (hv : AVR ρ h Im v u) :
    RepD h (lent B ρ Im c) d u := by
  unfold datP at hd
  split at hd
  · cases hd; cases hv with | dat _ _ hd => exact hd
  · split at hd
    · cases hd; obtain rfl := nils_val hv; exact .empty _ _ rfl none 0
    · cases hd
  · rename_i i
    split at hd
    · rename_i T κ l sh hB
      cases hd
      refine row_dat E hB hv (fun b o hI => lent_of B ρ _ hI) (fun r o hr ho => ?_)
      cases sh with
      | true => exact (E.imOwn i _ r o hB hr).2 ho
      | false => exact .inr (.inl ⟨i, T, κ, l, false, r, hB, hr, rfl, ho⟩)
    · rename_i T κ l hB
      cases hd
      exact tree_dat E hB hv fun r x o hr hx => .inr (.inr ⟨i, T, κ, l, r, hB, hr, hx⟩)
    · cases hd
  · cases hd

theorem datPs_sound (E : Env B ρ Im h) : ∀ (zs : List Dat) (vs ds : List AV) (c : Bool) (cf : Nat → Value), datPs B zs vs = some (ds, c) → (∀ j a, vs[j]? = some a → AVR ρ h Im a (cf j)) →
    ds.length = vs.length ∧ ∀ j a, ds[j]? = some a → AVR (fun _ => none) h (lent B ρ Im c) a (cf j)
  | [], [], ds, c, cf, hd, _ => by simp [datPs] at hd; obtain ⟨rfl, rfl⟩ := hd; simp
  | z :: zs, v :: vs, ds, c, cf, hd, hv => by
    simp only [datPs] at hd
    cases h1 : datP B z v with
    | none => simp [h1] at hd
    | some x =>
      obtain ⟨d, b⟩ := x
      simp only [h1] at hd
      cases h2 : datPs B zs vs with
      | none => simp [h2] at hd
      | some y =>
        obtain ⟨ds', c'⟩ := y
        simp [h2] at hd
        obtain ⟨rfl, rfl⟩ := hd
        have ih := datPs_sound E zs vs ds' c' (fun j => cf (j + 1)) h2 (fun j a ha => hv (j + 1) a (by simpa using ha))
        refine ⟨by simp [ih.1], fun j a ha => ?_⟩
        cases j with
        | zero =>
          simp at ha; subst ha
          exact .dat _ _ ((datP_sound E h1 (hv 0 v rfl)).mono (fun _ _ _ => rfl) (fun b o hI => lent_or hI))
        | succ j =>
          simp at ha
          exact (ih.2 j a ha).mono (fun _ _ _ => rfl) (fun b o hI => lent_or' hI)
  | [], _ :: _, _, _, _, hd, _ => by simp [datPs] at hd
  | _ :: _, [], _, _, _, hd, _ => by simp [datPs] at hd

theorem argP_sound (E : Env B ρ Im h) {T : Nat} {v x : AV} {u : Value} {c : Bool} (hd : argP τ B T v = some (x, c)) (hv : AVR ρ h Im v u) :
    AVR (fun _ => none) h (lent B ρ Im c) x u := by
  unfold argP at hd
  split at hd
  · cases hd
  · rename_i i hi
    split at hd
    · split at hd
      · rename_i l
        split at hd
        · rename_i ds b hds
          cases hd
          cases hv with
          | agg _ cs cf hl hcf hr =>
            obtain ⟨h1, h2⟩ := datPs_sound E _ _ _ _ cf hds hr
            exact .agg ds cs cf (by rw [hl, h1]) (fun j hj => hcf j (by rw [← h1]; exact hj)) h2
        · cases hd
      · cases hd
    · split at hd
      · split at hd
        · rename_i d b hds
          cases hd
          exact .dat _ _ (datP_sound E hds hv)
        · cases hd
      · cases hd

theorem argsP_sound (E : Env B ρ Im h) : ∀ (Ts : List Nat) (vs as : List AV) (c : Bool) (cf : Nat → Value), argsP τ B Ts vs = some (as, c) → (∀ j a, vs[j]? = some a → AVR ρ h Im a (cf j)) →
    as.length = vs.length ∧ ∀ j a, as[j]? = some a → AVR (fun _ => none) h (lent B ρ Im c) a (cf j)
  | [], [], ds, c, cf, hd, _ => by simp [argsP] at hd; obtain ⟨rfl, rfl⟩ := hd; simp
  | z :: zs, v :: vs, ds, c, cf, hd, hv => by
    simp only [argsP] at hd
    cases h1 : argP τ B z v with
    | none => simp [h1] at hd
    | some x =>
      obtain ⟨d, b⟩ := x
      simp only [h1] at hd
      cases h2 : argsP τ B zs vs with
      | none => simp [h2] at hd
      | some y =>
        obtain ⟨ds', c'⟩ := y
        simp [h2] at hd
        obtain ⟨rfl, rfl⟩ := hd
        have ih := argsP_sound E zs vs ds' c' (fun j => cf (j + 1)) h2 (fun j a ha => hv (j + 1) a (by simpa using ha))
        refine ⟨by simp [ih.1], fun j a ha => ?_⟩
        cases j with
        | zero =>
          simp at ha; subst ha
          exact (argP_sound E h1 (hv 0 v rfl)).mono (fun _ _ _ => rfl) (fun b o hI => lent_or hI)
        | succ j =>
          simp at ha
          exact (ih.2 j a ha).mono (fun _ _ _ => rfl) (fun b o hI => lent_or' hI)
  | [], _ :: _, _, _, _, hd, _ => by simp [argsP] at hd
  | _ :: _, [], _, _, _, hd, _ => by simp [argsP] at hd

/-- a value that leans on no memory -/
theorem RepD.flat {d : Dat} {v : Value} (hf : d.flat = true) (hr : RepD h Im d v) : RepD h' Im' d v := by
  cases hr with
  | int k n => exact .int k n
  | bool b => exact .bool b
  | str s => exact .str s
  | empty => simp [Dat.flat] at hf
  | seq => simp [Dat.flat] at hf
theorem AVR.flatC {a : AV} {v : Value} (hf : a.flatC = true) (hr : AVR ρ h Im a v) : AVR ρ' h' Im' a v := by
  cases hr with
  | dat d v hd => exact .dat d v (hd.flat hf)
  | nils => exact .nils
  | cell v hv => exact .cell v hv
  | any v => exact .any v
  | _ => simp [AV.flatC] at hf
theorem AVR.flatM {a : AV} {v : Value} (hf : a.flatM = true) (hr : AVR ρ h Im a v) : AVR ρ' h' Im' a v := by
  cases hr with
  | dat d v hd => exact .dat d v (hd.flat hf)
  | nils => exact .nils
  | cell v hv => exact .cell v hv
  | any v => exact .any v
  | agg l cs cf hl hcf hr =>
    simp only [AV.flatM, List.all_eq_true] at hf
    exact .agg l cs cf hl hcf (fun j a ha => (hr j a ha).flatC (hf a (List.mem_of_getElem? ha)))
  | _ => simp [AV.flatM, AV.flatC] at hf
theorem AVR.flat {a : AV} {v : Value} (hf : a.flat = true) (hr : AVR ρ h Im a v) : AVR ρ' h' Im' a v := by
  cases hr with
  | dat d v hd => exact .dat d v (hd.flat hf)
  | nils => exact .nils
  | cell v hv => exact .cell v hv
  | any v => exact .any v
  | agg l cs cf hl hcf hr => exact (AVR.agg l cs cf hl hcf hr).flatM hf
  | tup l cs cf hl hcf hr =>
    simp only [AV.flat, List.all_eq_true] at hf
    exact .tup l cs cf hl hcf (fun j a ha => (hr j a ha).flatM (hf a (List.mem_of_getElem? ha)))
  | _ => simp [AV.flat, AV.flatM, AV.flatC] at hf
theorem AVR.noidC {a : AV} {v : Value} (hf : a.noidC = true) (hr : AVR ρ h Im a v) : AVR ρ' h Im a v := by
  cases hr with
  | dat d v hd => exact .dat d v hd
  | nils => exact .nils
  | cell v hv => exact .cell v hv
  | any v => exact .any v
  | eptr κ x j b o cf him hc hr => exact .eptr κ x j b o cf him hc hr
  | _ => simp [AV.noidC] at hf
theorem AVR.noidM {a : AV} {v : Value} (hf : a.noidM = true) (hr : AVR ρ h Im a v) : AVR ρ' h Im a v := by
  cases hr with
  | dat d v hd => exact .dat d v hd
  | nils => exact .nils
  | cell v hv => exact .cell v hv
  | any v => exact .any v
  | eptr κ x j b o cf him hc hr => exact .eptr κ x j b o cf him hc hr
  | agg l cs cf hl hcf hr =>
    simp only [AV.noidM, List.all_eq_true] at hf
    exact .agg l cs cf hl hcf (fun j a ha => (hr j a ha).noidC (hf a (List.mem_of_getElem? ha)))
  | _ => simp [AV.noidM, AV.noidC] at hf
theorem AVR.noid {a : AV} {v : Value} (hf : a.noid = true) (hr : AVR ρ h Im a v) : AVR ρ' h Im a v := by
  cases hr with
  | dat d v hd => exact .dat d v hd
  | nils => exact .nils
  | cell v hv => exact .cell v hv
  | any v => exact .any v
  | eptr κ x j b o cf him hc hr => exact .eptr κ x j b o cf him hc hr
  | agg l cs cf hl hcf hr => exact (AVR.agg l cs cf hl hcf hr).noidM hf
  | tup l cs cf hl hcf hr =>
    simp only [AV.noid, List.all_eq_true] at hf
    exact .tup l cs cf hl hcf (fun j a ha => (hr j a ha).noidM (hf a (List.mem_of_getElem? ha)))
  | _ => simp [AV.noid, AV.noidM, AV.noidC] at hf

/-- the call operation -/
theorem run_call {o : Oper} {a : Act} {f : Operand} {args : Array Operand} {ts : Array Nat} {g : Nat} {fn : Func} (ho : o.op = .call { callee := .value f, args := args, argTypes := ts })
    (hf : a.eval f = .func (.func g) #[] #[]) (h1 : P.funcs[g]? = some fn) (h2 : (fn.name == "runtime.NumGoroutine") = false) (h3 : fn.body.isNone = false) :
    (execOp a.eval o).run P w = .ok (.enter g (args.map a.eval)) w := by
  unfold execOp
  simp only [ho, resolve, Deferred.ofValue, hf, invoke, callFunc, Sem.run_bind, Sem.run_pure, Result.andThen_ok, run_program, h1, h2, h3, Bool.false_eq_true, if_false, pure_bind, Array.append_empty, Array.empty_append]

variable {w0 : World} {G : GP} {Im0 : Nat → Nat → Prop} {S : AState} {a : Act}

/-- behind a call that made memory of its own alone -/
theorem Rel.after {Im2 : Nat → Nat → Prop} (hR : Rel w0 G Im0 S ρ Im a w) (hf : ∀ b, b < w.heap.size → w'.heap[b]? = w.heap[b]?) (hg : w.heap.size ≤ w'.heap.size)
    (ho : w'.os = w.os) (htp : w'.tape = w.tape) (hout : w'.output = w.output) (hI : ∀ b o, Im b o → Im2 b o)
    (hI2 : ∀ b o, Im2 b o → Im b o ∨ (w.heap.size ≤ b ∧ b < w'.heap.size)) : Rel w0 G Im0 S ρ Im2 a w' := by
  have hc : ∀ b o, Im b o → hcell w'.heap b o = hcell w.heap b o := fun b o h1 => hcell_of_block (hf b (hR.env.imlt b o h1)) o
  refine ⟨hR.defers, hR.size, fun t => (hR.tm t).mono hc hI, hR.env.grow hf hg hI hI2,
    ⟨hR.ext.own, fun b o h1 => hI b o (hR.ext.im0 b o h1), fun b o h1 => ?_, fun b o h1 => ?_, fun b hb hG => ?_, Nat.le_trans hR.ext.grow hg, ho.trans hR.ext.os, htp.trans hR.ext.tape, hout.trans hR.ext.output, hR.ext.pin⟩⟩
  · rcases hI2 b o h1 with h2 | h2
    · exact hR.ext.imNew b o h2
    · exact .inr (.inr (Nat.le_trans hR.ext.grow h2.1))
  · rw [hc b o (hR.ext.im0 b o h1)]; exact hR.ext.keep b o h1
  · have := hR.ext.grow
    rw [hf b (by omega)]; exact hR.ext.frame b hb hG
end
end Vg
