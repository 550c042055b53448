/- What the operations that only compute do, held against the model. Condition: the table of types is the program's. -/
import Derived.Test.YtjmgoefijnnooaaStep
namespace Vg
open Go

structure TyOk (P : Program) (T : Nat) (i : TyI) : Prop where
  info : ∃ x v, P.info? T = some x ∧ x.size = i.size ∧ x.bytes = i.bytes ∧ x.zero = some v ∧ v.cells = i.zero.toArray
  zsz : i.zero.length = i.size ∧ i.zeroD.length = i.size
  zrep : ∀ (j : Nat) (z : Dat), i.zeroD[j]? = some z → ∃ v, i.zero[j]? = some v ∧ v.oneCell' = true ∧ ∀ h Im, RepD h Im z v
  und : ∃ d, P.underlying T = some d ∧ (match d with | .struct _ | .array _ _ => true | _ => false) = i.agg ∧
    match i.desc with
    | .int k => d = .int k
    | .bool => d = .bool
    | .str => d = .string
    | .flds l => ∃ fs, d = .struct fs ∧ fs.size = l.length ∧ ∀ (f off E : Nat), l[f]? = some (off, E) → ∃ fd : Field, fs[f]? = some fd ∧ fd.offset = off ∧ fd.type = E ∧ ∃ x, P.info? E = some x ∧ x.size ≠ 0
    | .slice E _ => d = .slice E
    | .ptr E => d = .pointer E
    | .other => True

def TysOk (P : Program) (τ : Tys) : Prop := ∀ T i, τ T = some i → TyOk P T i

section
variable {P : Program} {τ : Tys} {w0 : World} {G : GP} {Im0 Im : Nat → Nat → Prop} {S : AState} {ρ : Rho} {a : Act} {w : World}

theorem constC_rel (h : Array Obj) (v : Value) : AVR ρ h Im (constC v) v := by
  unfold constC
  split
  · exact .dat _ _ (.int _ _)
  · exact .dat _ _ (.bool _)
  · exact .dat _ _ (.str _)
  · exact .nils
  · exact .cell _ rfl
  · exact .cell _ rfl
  · exact .cell _ rfl
  · exact .cell _ rfl
  · exact .any _

theorem constAV_rel (h : Array Obj) (v : Value) : AVR ρ h Im (constAV v) v := by
  unfold constAV
  split
  · rename_i cs
    refine .agg _ cs (fun j => cs.getD j undef) (by simp) (fun j hj => ?_) (fun j a ha => ?_)
    · simp at hj; simp [hj]
    · rw [List.getElem?_map] at ha
      cases hj : cs.toList[j]? with
      | none => simp [hj] at ha
      | some v =>
        simp [hj] at ha; subst ha
        have : cs[j]? = some v := by simpa using hj
        simp [this]; exact constC_rel h v
  · exact constC_rel h _

theorem ev_rel (hR : Rel w0 G Im0 S ρ Im a w) (x : Operand) : AVR ρ w.heap Im (ev S x) (a.eval x) := by
  cases x with
  | tmp t => exact hR.tm t
  | const v => exact constAV_rel _ v
  | global g => exact .cell _ rfl
  | func f => exact .fn f [] #[] (fun _ => undef) rfl (by simp) (by simp)

/-- values that fill one cell -/
theorem RepD.one {h : Array Obj} {d : Dat} {v : Value} (hr : RepD h Im d v) : v.oneCell' = true := by cases hr <;> rfl
theorem AVR.one {h : Array Obj} {b : AV} {v : Value} (hb : b.oneC = true) (hr : AVR ρ h Im b v) : v.oneCell' = true := by
  cases hr <;> first | rfl | assumption | (simp [AV.oneC] at hb; done) | (rename_i hd; exact hd.one)

theorem cells_one {v : Value} (h : v.oneCell' = true) : v.cells = #[v] := by cases v <;> first | rfl | (simp [Value.oneCell'] at h)

/-- the cells of a value -/
theorem AVR.cells1 {h : Array Obj} {b : AV} {v : Value} {l : List AV} (hb : b.cells1 = some l) (hr : AVR ρ h Im b v) :
    v.cells.size = l.length ∧ ∀ (j : Nat) (x : AV), l[j]? = some x → ∃ c, v.cells[j]? = some c ∧ AVR ρ h Im x c := by
  have one : ∀ {b : AV} {v : Value}, b.oneC = true → b.cells1 = some [b] → b.cells1 = some l → AVR ρ h Im b v →
      v.cells.size = l.length ∧ ∀ (j : Nat) (x : AV), l[j]? = some x → ∃ c, v.cells[j]? = some c ∧ AVR ρ h Im x c := by
    intro b v h1 h2 h3 h4
    rw [h2] at h3; cases h3
    rw [cells_one (h4.one h1)]
    refine ⟨rfl, fun j x hx => ?_⟩
    cases j with
    | zero => simp at hx; subst hx; exact ⟨v, rfl, h4⟩
    | succ j => simp at hx
  cases hr with
  | agg l' cs cf hl hcf hr =>
    simp [AV.cells1] at hb; subst hb
    exact ⟨hl, fun j x hx => ⟨cf j, hcf j (List.getElem?_eq_some_iff.1 hx).1, hr j x hx⟩⟩
  | any v => simp [AV.cells1] at hb
  | tup l' cs cf hl hcf hr => simp [AV.cells1] at hb
  | cell v hv => exact one rfl rfl hb (.cell v hv)
  | dat d v hd => exact one rfl rfl hb (.dat d v hd)
  | nils => exact one rfl rfl hb .nils
  | row i r hi => exact one rfl rfl hb (.row i r hi)
  | rowN i hi => exact one rfl rfl hb (.rowN i hi)
  | ptr i off r hi => exact one rfl rfl hb (.ptr i off r hi)
  | eptr κ x j b o cf him hc hr => exact one rfl rfl hb (.eptr κ x j b o cf him hc hr)
  | rptr i k j sz r hi => exact one rfl rfl hb (.rptr i k j sz r hi)
  | fn f l cs cf hl hcf hr => exact one rfl rfl hb (.fn f l cs cf hl hcf hr)

/-! ### loads -/
theorem run_isAgg {T : Nat} {i : TyI} (ht : TyOk P T i) (w : World) : (isAgg T).run P w = .ok i.agg w := by
  obtain ⟨d, hd, ha, _⟩ := ht.und
  simp only [isAgg, underlying, Sem.run_bind, run_program, Result.andThen_ok, hd, Sem.run_pure]
  rw [← ha]
  cases d <;> rfl
theorem run_sizeOf {T : Nat} {i : TyI} (ht : TyOk P T i) (w : World) : (Go.sizeOf T).run P w = .ok i.size w := by
  obtain ⟨x, v, hx, hs, _⟩ := ht.info
  simp only [Go.sizeOf, typeInfo, Sem.run_bind, run_program, Result.andThen_ok, hx, Sem.run_pure, hs]
theorem run_und {T : Nat} {d : TypeDesc} (h : P.underlying T = some d) (w : World) : (underlying T).run P w = .ok d w := by
  simp only [underlying, Sem.run_bind, run_program, Result.andThen_ok, h, Sem.run_pure]
theorem run_zero {T : Nat} {i : TyI} (ht : TyOk P T i) (w : World) : ∃ v, (zeroValue T).run P w = .ok v w ∧ v.cells = i.zero.toArray := by
  obtain ⟨x, v, hx, _, _, hz, hc⟩ := ht.info
  exact ⟨v, by simp only [zeroValue, typeInfo, Sem.run_bind, run_program, Result.andThen_ok, hx, Sem.run_pure, hz], hc⟩

theorem Addr.add_some (b o n : Nat) : (⟨b, o, none⟩ : Addr).add n = ⟨b, o + n, none⟩ := by
  unfold Addr.add; split
  · rename_i h; subst h; rfl
  · rfl

/-- loading n cells that are there -/
theorem run_loadVar_cells {T : Nat} {i : TyI} (ht : TyOk P T i) (w : World) (b o : Nat) (cf : Nat → Value)
    (hc : ∀ j, j < (match i.agg with | true => i.size | false => 1) → hcell w.heap b (o + j) = some (cf j)) :
    (loadVar T ⟨b, o, none⟩).run P w = .ok (match i.agg with | true => .agg ((List.range i.size).map cf).toArray | false => cf 0) w := by
  unfold loadVar
  rw [Sem.run_bind, run_isAgg ht]
  simp only [Result.andThen_ok]
  cases hag : i.agg with
  | true =>
    simp only [hag] at hc
    simp only [if_true, Sem.run_bind, run_sizeOf ht, Result.andThen_ok]
    rw [run_loadCells w ⟨b, o, none⟩ i.size cf (fun j hj => by rw [Addr.add_some, cell?_eq]; exact hc j hj)]
    simp
  | false =>
    simp only [hag] at hc
    simp only [Bool.false_eq_true, if_false, run_load]
    have := hc 0 (by omega)
    rw [cell?_eq, show o = o + 0 from rfl, this]
end
end Vg
