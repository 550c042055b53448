/- Loads, arithmetic, addresses: the abstract value is the model's. -/
import Derived.Test.YtjmgoefijnnooaaSound1
namespace Vg
open Go

section
variable {P : Program} {τ : Tys} {Im : Nat → Nat → Prop} {B : Nat → Option Blk} {ρ : Rho} {w : World}

theorem RepD.seq_view {h : Array Obj} {κ : K} {l : List κ.T} {v : Value} (hr : RepD h Im (.seq κ l) v) :
    ∃ a cap, v = .slice a l.length cap ∧ l.length ≤ maxLen ∧ (l.length ≠ 0 → ∃ (b o : Nat) (cf : Nat → Nat → Value), a = some ⟨b, o, none⟩ ∧ l.length ≤ cap ∧ cap ≤ maxLen ∧
      (∀ k j, k < l.length → j < κ.sz → Im b (o + k * κ.sz + j)) ∧
      (∀ k j, k < l.length → j < κ.sz → hcell h b (o + k * κ.sz + j) = some (cf k j)) ∧
      (∀ k j, k < l.length → j < κ.sz → RepD h Im (cellOf κ l k j) (cf k j))) := by
  cases hr with
  | empty _ _ hl a cap => exact ⟨a, cap, by rw [hl], by rw [hl]; exact Nat.zero_le _, fun hn => absurd hl hn⟩
  | seq _ _ b o cap cf hcap hmax him hc hr => exact ⟨_, cap, rfl, Nat.le_trans hcap hmax, fun _ => ⟨b, o, cf, rfl, hcap, hmax, him, hc, hr⟩⟩

/-- a part of a row of n cells, read as one value -/
theorem agg_of_cells {h : Array Obj} {g : Dat → AV} {ds : List Dat} {cf : Nat → Value} (hr : ∀ j d, ds[j]? = some d → AVR ρ h Im (g d) (cf j)) :
    AVR ρ h Im (.agg (ds.map g)) (.agg ((List.range ds.length).map cf).toArray) := by
  refine .agg _ _ cf (by simp) (fun j hj => ?_) (fun j a ha => ?_)
  · simp at hj; simp [hj]
  · rw [List.getElem?_map] at ha
    cases hd : ds[j]? with
    | none => simp [hd] at ha
    | some d => simp [hd] at ha; subst ha; exact hr j d hd

theorem treeC_rel {h : Array Obj} {F : Nat → Prop} {d : Dat} {c : Value} (hr : RepT h d c F) : AVR ρ h Im (treeC d) c := by
  cases hr with
  | int k n => exact .dat _ _ (.int k n)
  | bool b => exact .dat _ _ (.bool b)
  | str s => exact .dat _ _ (.str s)
  | nil => exact .cell _ rfl
  | seq => exact .cell _ rfl

theorem aload_sound {T : Nat} {i : TyI} {p : AV} {v : Value} {K : AV → Prop} (ht : TyOk P T i) (E : Env B ρ Im w.heap) (hp : AVR ρ w.heap Im p v)
    (h : aload i B p K) : ∃ av, K av ∧ aload i B p (· = av) ∧ ∃ u, (Instr.loadAt T v).run P w = .ok u w ∧ AVR ρ w.heap Im av u := by
  have enc_case : ∀ (g : Dat → AV) (κ : Vg.K) (x : κ.T) (j b o : Nat) (cf : Nat → Value) (K : AV → Prop),
      (∀ j', j' < κ.sz → hcell w.heap b (o + j') = some (cf j')) →
      (∀ j', j' < κ.sz → AVR ρ w.heap Im (g ((κ.enc x).getD j' (.bool false))) (cf j')) →
      (match i.agg with
        | true => match Nat.ble (j + i.size) κ.sz with | true => K (.agg ((((κ.enc x).drop j).take i.size).map g)) | false => False
        | false => match (κ.enc x)[j]? with | some d => K (g d) | none => False) →
      ∃ av, K av ∧ (match i.agg with
        | true => match Nat.ble (j + i.size) κ.sz with | true => (.agg ((((κ.enc x).drop j).take i.size).map g)) = av | false => False
        | false => match (κ.enc x)[j]? with | some d => (g d) = av | none => False) ∧
        ∃ u, (Instr.loadAt T (.pointer (some ⟨b, o + j, none⟩))).run P w = .ok u w ∧ AVR ρ w.heap Im av u := by
    intro g κ x j b o cf K hc hr h
    have hlen := κ.enc_length x
    simp only [Instr.loadAt, Instr.sureAddr, pure_bind]
    cases hag : i.agg with
    | true =>
      simp only [hag] at h ⊢
      cases hb : Nat.ble (j + i.size) κ.sz with
      | false => simp [hb] at h
      | true =>
        simp only [hb] at h ⊢
        have hle : j + i.size ≤ κ.sz := Nat.le_of_ble_eq_true hb
        have run := run_loadVar_cells ht w b (o + j) (fun k => cf (j + k)) (by
            simp only [hag]; intro k hk; rw [Nat.add_assoc]; exact hc _ (by omega))
        simp only [hag] at run
        refine ⟨_, h, rfl, _, run, ?_⟩
        · have hl : (((κ.enc x).drop j).take i.size).length = i.size := by simp [hlen]; omega
          have := agg_of_cells (ρ := ρ) (Im := Im) (h := w.heap) (g := g) (ds := ((κ.enc x).drop j).take i.size) (cf := fun k => cf (j + k)) (fun k d hd => by
            have hk : k < i.size := by
              have := (List.getElem?_eq_some_iff.1 hd).1; omega
            rw [List.getElem?_take_of_lt hk, List.getElem?_drop] at hd
            have := hr (j + k) (by omega)
            rwa [List.getD_eq_getElem?_getD, hd] at this)
          rw [hl] at this; exact this
    | false =>
      simp only [hag] at h ⊢
      cases hd : (κ.enc x)[j]? with
      | none => simp [hd] at h
      | some d =>
        simp only [hd] at h ⊢
        have hj : j < κ.sz := by have := (List.getElem?_eq_some_iff.1 hd).1; omega
        have run := run_loadVar_cells ht w b (o + j) (fun k => cf (j + k)) (by
            simp only [hag]; intro k hk; have : k = 0 := by omega
            subst this; exact hc _ (by omega))
        simp only [hag] at run
        refine ⟨_, h, rfl, _, run, ?_⟩
        · have := hr j hj
          rw [List.getD_eq_getElem?_getD, hd] at this
          exact this
  cases hp with
  | ptr id off r hi =>
    simp only [aload] at h ⊢
    cases hB : B id with
    | none => simp [hB] at h
    | some blk =>
      simp only [hB] at h ⊢
      cases blk with
      | row => exact h.elim
      | tree => exact h.elim
      | box cells =>
        obtain ⟨r', cs, T', hr', hh, hsz, hcs⟩ := E.bl id _ hB
        rw [hi] at hr'; cases hr'
        have hcell : ∀ j x, cells[j]? = some x → hcell w.heap r.b j = some (cs.getD j undef) ∧ AVR ρ w.heap Im x (cs.getD j undef) := by
          intro j x hx
          obtain ⟨c, hc1, hc2⟩ := hcs j x hx
          have : cs.getD j undef = c := by simp [hc1]
          rw [this]
          exact ⟨by simp [Vg.hcell, hh, hc1], hc2⟩
        simp only [Instr.loadAt, Instr.sureAddr, pure_bind]
        cases hag : i.agg with
        | true =>
          simp only [hag] at h ⊢
          cases hb : Nat.ble (off + i.size) cells.length with
          | false => simp [hb] at h
          | true =>
            simp only [hb] at h ⊢
            have hle : off + i.size ≤ cells.length := Nat.le_of_ble_eq_true hb
            have run := run_loadVar_cells ht w r.b off (fun k => cs.getD (off + k) undef) (by
                simp only [hag]; intro k hk
                exact (hcell (off + k) _ (List.getElem?_eq_getElem (by omega))).1)
            simp only [hag] at run
            refine ⟨_, h, rfl, _, run, ?_⟩
            · refine .agg _ _ (fun k => cs.getD (off + k) undef) (by simp; omega) (fun j hj => ?_) (fun j x hx => ?_)
              · simp at hj
                have hj' : j < i.size := by omega
                simp [hj']
              · have hk : j < i.size := by
                  have := (List.getElem?_eq_some_iff.1 hx).1; simp at this; omega
                rw [List.getElem?_take_of_lt hk, List.getElem?_drop] at hx
                exact (hcell _ _ hx).2
        | false =>
          simp only [hag] at h ⊢
          cases hd : cells[off]? with
          | none => simp [hd] at h
          | some c =>
            simp only [hd] at h ⊢
            have run := run_loadVar_cells ht w r.b off (fun k => cs.getD (off + k) undef) (by
              simp only [hag]; intro k hk; have : k = 0 := by omega
              subst this; exact (hcell off _ hd).1)
            simp only [hag] at run
            exact ⟨_, h, rfl, _, run, (hcell _ _ hd).2⟩
  | eptr κ x j b o cf him hc hr =>
    simp only [aload] at h ⊢
    exact enc_case .dat κ x j b o cf K hc (fun j' hj' => .dat _ _ (hr j' hj')) h
  | rptr id k j sz r hi =>
    simp only [aload] at h ⊢
    cases hB : B id with
    | none => simp [hB] at h
    | some blk =>
      simp only [hB] at h ⊢
      cases blk with
      | box => exact h.elim
      | tree T' κ l =>
        simp only at h ⊢
        cases hs : Nat.beq sz κ.sz with
        | false => simp [hs] at h
        | true =>
          simp only [hs] at h ⊢
          have hsz : sz = κ.sz := Nat.eq_of_beq_eq_true hs
          subst hsz
          obtain ⟨hk, h⟩ := h
          have hbl := E.bl id _ hB
          simp only [BlkR, hi] at hbl
          obtain ⟨h1, h2, h3, cs, Fk, T0, hh, hsz, _, _, hcs⟩ := hbl
          have hkl : ∀ j', j' < κ.sz → ∃ c, cs[k * κ.sz + j']? = some c ∧ RepT w.heap (cellOf κ l k j') c (Fk k j') := fun j' hj' => hcs k j' hk hj'
          obtain ⟨av, h4, h5, h6⟩ := enc_case treeC κ (l.getD k κ.dflt) j r.b (k * κ.sz) (fun j' => cs.getD (k * κ.sz + j') undef) K
            (fun j' hj' => by obtain ⟨c, hc1, _⟩ := hkl j' hj'; simp [Vg.hcell, hh, hc1])
            (fun j' hj' => by obtain ⟨c, hc1, hc2⟩ := hkl j' hj'; simp [hc1]; exact treeC_rel hc2) h
          exact ⟨av, h4, ⟨hk, h5⟩, h6⟩
      | row T' κ l sh =>
        simp only at h ⊢
        cases hs : Nat.beq sz κ.sz with
        | false => simp [hs] at h
        | true =>
          simp only [hs] at h ⊢
          have hsz : sz = κ.sz := Nat.eq_of_beq_eq_true hs
          subst hsz
          obtain ⟨hk, h⟩ := h
          have hbl := E.bl id _ hB
          simp only [BlkR, hi] at hbl
          obtain ⟨h1, h2, h3, cs, T0, hh, hsz, hcs⟩ := hbl
          have hkl : ∀ j', j' < κ.sz → ∃ c, cs[k * κ.sz + j']? = some c ∧ RepD w.heap Im (cellOf κ l k j') c := fun j' hj' => hcs k j' hk hj'
          obtain ⟨av, h4, h5, h6⟩ := enc_case .dat κ (l.getD k κ.dflt) j r.b (k * κ.sz) (fun j' => cs.getD (k * κ.sz + j') undef) K
            (fun j' hj' => by obtain ⟨c, hc1, _⟩ := hkl j' hj'; simp [Vg.hcell, hh, hc1])
            (fun j' hj' => by obtain ⟨c, hc1, hc2⟩ := hkl j' hj'; simp [hc1]; exact .dat _ _ hc2) h
          exact ⟨av, h4, ⟨hk, h5⟩, h6⟩
  | any => exact h.elim
  | cell => exact h.elim
  | dat => exact h.elim
  | nils => exact h.elim
  | row => exact h.elim
  | rowN => exact h.elim
  | agg => exact h.elim
  | tup => exact h.elim
  | fn => exact h.elim
end
end Vg
