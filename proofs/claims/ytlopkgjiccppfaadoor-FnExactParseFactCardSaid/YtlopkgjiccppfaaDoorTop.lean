/- From a law's contract to what its row asks. No condition. -/
import Derived.Test.YtlopkgjiccppfaaDoorRead
namespace Vg
open Go Go.RowKit Go.ChangeShapes

def AllSh : List (List Sh) → List (List Dat) → Prop
  | [], [] => True
  | ss :: r, ds :: rs => ShL ss ds ∧ AllSh r rs
  | _, _ => False
/-- an argument that holds the data ds -/
def argAV (τ : Tys) (t : Nat) (ds : List Dat) : AV :=
  match τ t with
  | some i => match i.agg with
    | true => .agg (ds.map .dat)
    | false => match ds with
      | [d] => .dat d
      | _ => .any
  | none => .any
def argAVs (τ : Tys) : List Nat → List (List Dat) → List AV
  | t :: ts, ds :: rs => argAV τ t ds :: argAVs τ ts rs
  | _, _ => []

section
variable {P : Program} {τ : Tys} {H : Type} {enc : TypeId × Value → H} {w : World} {base : Nat} {spare : Nat → Bool} {held : Bool}

theorem arg_read (hτ : TysOk P τ) {t f : Nat} {ss : List Sh} {v : Value} {d : DataW H} {ps : List MemPlace} {r : Reach} {b0 : Nat} (hs : shOf P τ f t = some ss)
    (hval : Value.okWide P w r b0 t v) (h : DataW.Trod enc P w base spare held t v d ps) : ∃ ds, ShL ss ds ∧ ∀ ρ : Rho, AVR ρ w.heap (allIm w) (argAV τ t ds) v := by
  obtain ⟨n, hn⟩ := h
  obtain ⟨ds, h1, h2, h3⟩ := trod_read hτ f t ss n _ _ hs hn
  refine ⟨ds, h1, fun ρ => ?_⟩
  unfold argAV
  split
  · rename_i i hi
    obtain ⟨dd, hu, ha, _⟩ := (hτ t i hi).und
    split
    · rename_i hagg
      rw [hagg] at ha
      have : ∃ cs, v = .agg cs := by
        unfold Value.okWide at hval
        rw [hu] at hval
        split at ha
        · obtain ⟨cs, rfl, _⟩ := hval; exact ⟨cs, rfl⟩
        · obtain ⟨cs, rfl, _⟩ := hval; exact ⟨cs, rfl⟩
        · cases ha
      obtain ⟨cs, rfl⟩ := this
      have hcs : (Value.agg cs).cells = cs := rfl
      rw [hcs] at h2 h3
      have hlen : cs.size = ds.length := by simpa using h2.symm
      refine .agg _ cs (fun j => cs.getD j undef) (by simpa using hlen) (fun j hj => ?_) (fun j a hja => ?_)
      · simp at hj
        have : j < cs.size := by omega
        simp [this]
      · rw [List.getElem?_map] at hja
        cases hd : ds[j]? with
        | none => simp [hd] at hja
        | some d' =>
          simp [hd] at hja
          subst hja
          have hj : j < cs.size := by have := (List.getElem?_eq_some_iff.1 hd).1; omega
          refine .dat _ _ (h3 j d' _ hd ?_)
          simp [hj]
    · rename_i hagg
      rw [hagg] at ha
      split
      · rename_i d'
        have hv : v.cells = #[v] := by
          cases v with
          | agg cs =>
            exfalso
            unfold Value.okWide at hval
            rw [hu] at hval
            cases dd <;> simp [Cell.okWide, Cell.ok, hu] at hval ha
          | _ => rfl
        rw [hv] at h3
        exact .dat _ _ (h3 0 _ v rfl rfl)
      · exact .any _
  · exact .any _

theorem args_read (hτ : TysOk P τ) {f : Nat} {r : Reach} {b0 : Nat} : ∀ (ts : List Nat) (shs : List (List Sh)) (vs : List Value) (ds : List (DataW H)) (ps : List MemPlace), ts.map (shOf P τ f) = shs.map some →
    (∀ (j : Nat) t v, ts[j]? = some t → vs[j]? = some v → Value.okWide P w r b0 t v) → DataW.TrodAll enc P w base spare held ts vs ds ps →
    ∃ dss, AllSh shs dss ∧ (argAVs τ ts dss).length = vs.length ∧ ∀ (ρ : Rho) (j : Nat) (a : AV), (argAVs τ ts dss)[j]? = some a → AVR ρ w.heap (allIm w) a (vs.getD j undef)
  | [], shs, vs, ds, ps, hs, _, h => by
    cases shs with
    | cons => simp at hs
    | nil =>
      obtain ⟨rfl, _, _⟩ := trodAll_nil h
      exact ⟨[], trivial, rfl, fun ρ j a ha => by simp [argAVs] at ha⟩
  | t :: ts, shs, vs, ds, ps, hs, hval, h => by
    cases shs with
    | nil => simp at hs
    | cons ss shs =>
      simp only [List.map_cons, List.cons.injEq] at hs
      obtain ⟨hs1, hs2⟩ := hs
      cases vs with
      | nil => cases ds <;> exact h.elim
      | cons v vs =>
        cases ds with
        | nil => exact h.elim
        | cons d ds =>
          obtain ⟨p, q, h1, h2, rfl⟩ := h
          obtain ⟨x, hx1, hx2⟩ := arg_read hτ hs1 (hval 0 t v rfl rfl) h1
          obtain ⟨dss, h3, h4, h5⟩ := args_read hτ ts shs vs ds q hs2 (fun j t v ht hv => hval (j + 1) t v (by simpa using ht) (by simpa using hv)) h2
          refine ⟨x :: dss, ⟨hx1, h3⟩, by simp [argAVs, h4], fun ρ j a ha => ?_⟩
          cases j with
          | zero => simp [argAVs] at ha; subst ha; exact hx2 ρ
          | succ j => simp [argAVs] at ha; simpa using h5 ρ j a ha

theorem trodAll_len : ∀ (ts : List Nat) (vs : List Value) (ds : List (DataW H)) (ps : List MemPlace), DataW.TrodAll enc P w base spare held ts vs ds ps → ds.length = ts.length
  | [], vs, ds, ps, h => by
    obtain ⟨_, rfl, _⟩ := trodAll_nil h
    rfl
  | t :: ts, vs, ds, ps, h => by
    cases vs with
    | nil => cases ds <;> exact h.elim
    | cons v vs =>
      cases ds with
      | nil => exact h.elim
      | cons d ds =>
        obtain ⟨p, q, _, h2, _⟩ := h
        simp [trodAll_len ts vs ds q h2]

theorem trodAll_below (hl : laidOutB P = true) {W W' : World} (hb : Below W.heap.size W W') : ∀ (ts : List Nat) (vs : List Value) (ds : List (DataW H)) (ps : List MemPlace), (∀ t ∈ ts, P.readableRec t = true ∧ t < P.types.size) →
    (∀ x ∈ ps, x.block < W.heap.size) → DataW.TrodAll enc P W 0 (fun _ => true) true ts vs ds ps → DataW.TrodAll enc P W' 0 (fun b => decide (b < W.heap.size)) true ts vs ds ps
  | [], vs, ds, ps, _, _, h => by
    obtain ⟨rfl, rfl, rfl⟩ := trodAll_nil h
    rfl
  | t :: ts, vs, ds, ps, hr, hlt, h => by
    cases vs with
    | nil => cases ds <;> exact h.elim
    | cons v vs =>
      cases ds with
      | nil => exact h.elim
      | cons d ds =>
        obtain ⟨p, q, h1, h2, rfl⟩ := h
        have := hr t (by simp)
        exact ⟨p, q, Below.trod hl this.1 this.2 h1 hb (fun x hx => hlt x (by simp [hx])),
          trodAll_below hl hb ts vs ds q (fun t ht => hr t (by simp [ht])) (fun x hx => hlt x (by simp [hx])) h2, rfl⟩

theorem law_post (hτ : TysOk P τ) (hl : laidOutB P = true) {F : FuncId} {fn : Func} {s : ChangeSpec} {W : World} {b0 : Nat} {args : Array Value} {ds gs : List (DataW H)} {before : List MemPlace} {tb f : Nat} {shs : List (List Sh)}
    (hr : ∀ t ∈ fn.params.toList, P.readableRec t = true ∧ t < P.types.size) (hres : fn.resultTypes = #[tb]) (htb : P.underlying tb = some .bool) (hvars : s.vars = [])
    (hspec : ∀ ds : List (DataW H), ds.length = fn.params.toList.length → (s.fn H ds).results = [.lit (.bool true)] ∧ (s.fn H ds).args = ds ∧ (s.fn H ds).vars = [])
    (hsh : fn.params.toList.map (shOf P τ f) = shs.map some)
    (hcall : ∀ dss, AllSh shs dss → CallsV P F (argAVs τ fn.params.toList dss) (.dat (.bool true)))
    (hval : ∀ (j : Nat) t v, fn.params[j]? = some t → args[j]? = some v → Value.okWide P W .any b0 t v)
    (hW : DataW.Whole enc P fn.params.toList s.vars false W args.toList ds gs before) (hT : TabH W.heap (allIm W)) :
    Calls P F args W fun e W' => ∃ v, e = .returned v ∧ s.post enc P fn false true false false W args v W' := by
  have hW' := hW
  obtain ⟨p, q, hA, hV, rfl, _, _⟩ := hW
  rw [hvars] at hV
  obtain ⟨rfl, rfl⟩ := trodVars_none hV
  obtain ⟨dss, h1, h2, h3⟩ := args_read hτ (f := f) fn.params.toList shs args.toList ds p hsh (fun j t v ht hv => hval j t v (by simpa using ht) (by simpa using hv)) hA
  have hc := (hcall dss h1).2 W (allIm W) args (by simpa using h2.symm) (fun j a ha => by
    have := h3 (fun _ => none) j a ha
    simpa [Array.getD_eq_getD_getElem?, List.getD_eq_getElem?_getD] using this) ⟨fun b o h => h, hT⟩
  refine hc.mono fun e W' ⟨v, res, B', ρ', Im', he, ⟨hres', _⟩, hav, _, hext⟩ => ?_
  subst hres'
  have hv : v = .bool true := by
    cases hav with | dat d v hd => cases hd; rfl
  subst hv
  have hb : Below W.heap.size W W' := ⟨hext.os, hext.tape, hext.output, hext.grow, fun k hk => hext.frame k hk (fun h => h)⟩
  have hlen := trodAll_len _ _ _ _ hA
  obtain ⟨e1, e2, e3⟩ := hspec ds (by simpa using hlen)
  refine ⟨.bool true, he, ds, [], p ++ [], [], p, [], hW', ?_, ?_, ?_, hb.frame _, fun h => (by cases h)⟩
  · rw [List.append_nil, e1, hres]
    exact trodAll_mk1 (shut_bool htb true)
  · rw [List.append_nil, e2]
    exact trodAll_below hl hb _ _ _ _ hr (fun x hx => hW'.lt x (by simpa using hx)) hA
  · rw [List.append_nil, e3, hvars]
    rfl
end
end Vg
