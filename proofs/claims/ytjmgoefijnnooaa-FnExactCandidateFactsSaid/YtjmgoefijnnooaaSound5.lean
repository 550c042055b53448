/- Slices of strings and rows, elements. -/
import Derived.Test.YtjmgoefijnnooaaSound4
namespace Vg
open Go

section
variable {P : Program} {τ : Tys} {Im : Nat → Nat → Prop} {B : Nat → Option Blk} {ρ : Rho} {w : World}

/-- a part of a list lies in a part of the row -/
theorem RepD.slice {h : Array Obj} {κ : K} {xs : List κ.T} {a : Option Addr} {cap l u : Nat} (hr : RepD h Im (.seq κ xs) (.slice a xs.length cap)) (hlu : l ≤ u) (hu : u ≤ xs.length) :
    RepD h Im (.seq κ ((xs.take u).drop l)) (.slice (if cap = l then a else a.map (·.add (l * κ.sz))) (u - l) (cap - l)) := by
  have hlen : ((xs.take u).drop l).length = u - l := by simp; omega
  by_cases h0 : u - l = 0
  · rw [h0]
    exact .empty κ _ (by rw [hlen, h0]) _ _
  · obtain ⟨a', cap', he, hm, hrest⟩ := hr.seq_view
    cases he
    obtain ⟨b, o, cf, ha, hcap, hmax, him, hc, hrr⟩ := hrest (by omega)
    cases ha
    have hne : cap ≠ l := by omega
    rw [if_neg hne]
    simp only [Option.map_some, Addr.add_some]
    have hk : ∀ k j, o + l * κ.sz + k * κ.sz + j = o + (l + k) * κ.sz + j := fun k j => by rw [Nat.add_mul]; omega
    have := RepD.seq (h := h) (Im := Im) κ ((xs.take u).drop l) b (o + l * κ.sz) (cap - l) (fun k j => cf (l + k) j) (by rw [hlen]; omega) (by omega)
      (fun k j h1 h2 => by rw [hk]; rw [hlen] at h1; exact him _ _ (by omega) h2)
      (fun k j h1 h2 => by rw [hk]; rw [hlen] at h1; exact hc _ _ (by omega) h2)
      (fun k j h1 h2 => by
        rw [hlen] at h1
        have := hrr (l + k) j (by omega) h2
        unfold cellOf at this ⊢
        have e : ((xs.take u).drop l).getD k κ.dflt = xs.getD (l + k) κ.dflt := by
          simp only [List.getD_eq_getElem?_getD, List.getElem?_drop, List.getElem?_take]
          rw [if_pos (by omega)]
        rwa [e])
    rw [hlen] at this
    exact this

theorem elem_eq {T E : Nat} (h : P.underlying T = some (.slice E)) : P.elem T = E := by simp [Program.elem, h]

theorem aslice_sound (hτ : TysOk P τ) {T : Nat} {p : AV} {lo hi : Option AV} {v : Value} {vlo vhi : Option Value} {K : AV → Prop} (hp : AVR ρ w.heap Im p v)
    (hlo : (lo = none ∧ vlo = none) ∨ ∃ x y, lo = some x ∧ vlo = some y ∧ AVR ρ w.heap Im x y)
    (hhi : (hi = none ∧ vhi = none) ∨ ∃ x y, hi = some x ∧ vhi = some y ∧ AVR ρ w.heap Im x y) (h : aslice τ (τ T) (some p) lo hi K) :
    ∃ av, K av ∧ aslice τ (τ T) (some p) lo hi (· = av) ∧ ∃ r, (Instr.sliceAt T v vlo vhi none).run P w = .ok r w ∧ AVR ρ w.heap Im av r := by
  cases ht : τ T with
  | none => simp [aslice, ht] at h
  | some i =>
    simp only [aslice, ht] at h ⊢
    obtain ⟨d, hd, _, hdesc⟩ := (hτ T i ht).und
    split at h
    · -- a string
      rename_i s hs
      cases hs
      obtain rfl := dat_str hp
      cases hdd : i.desc <;> simp only [hdd] at h hdesc ⊢ <;> first | exact h.elim | skip
      subst hdesc
      have hst : ∀ lo hi, (Instr.sliceAt T (.string s) lo hi none).run P w = (Instr.slice T (.string s) lo hi none).run P w := fun lo hi => run_sliceAt_string w T _ lo hi none hd
      rw [hst]
      rcases hlo with ⟨rfl, rfl⟩ | ⟨x, y, rfl, rfl, hxy⟩ <;> rcases hhi with ⟨rfl, rfl⟩ | ⟨x', y', rfl, rfl, hxy'⟩
      · exact ⟨_, h, rfl, _, by simp [Instr.slice, run_und hd, Instr.sliceBounds], mk_str _ _⟩
      · split at h <;> rename_i e1 e2 <;> simp at e1 e2 <;> try exact h.elim
        rename_i k u
        subst e2
        obtain rfl := dat_int hxy'
        exact ⟨_, h.2, ⟨h.1, rfl⟩, _, by simp [Instr.slice, run_und hd, Instr.sliceBounds, run_sliceBound w _ u _ _ h.1.1 h.1.2], mk_str _ _⟩
      · split at h <;> rename_i e1 e2 <;> simp at e1 e2 <;> try exact h.elim
        rename_i k u
        subst e1
        obtain rfl := dat_int hxy
        exact ⟨_, h.2, ⟨h.1, rfl⟩, _, by simp [Instr.slice, run_und hd, Instr.sliceBounds, run_sliceBound w _ u _ _ h.1.1 h.1.2], mk_str _ _⟩
      · split at h <;> rename_i e1 e2 <;> simp at e1 e2 <;> try exact h.elim
        rename_i k l k' u
        subst e1 e2
        obtain rfl := dat_int hxy
        obtain rfl := dat_int hxy'
        have hu : ((u.toNat : Nat) : Int) = u := Int.toNat_of_nonneg (by omega)
        refine ⟨_, h.2, ⟨h.1, rfl⟩, _, ?_, mk_str _ _⟩
        simp [Instr.slice, run_und hd, Instr.sliceBounds, run_sliceBound w _ u _ _ (show 0 ≤ u by omega) h.1.2.2, run_sliceBound w _ l u.toNat _ h.1.1 (by omega)]
    · -- a row
      rename_i κ xs hs
      cases hs
      cases hdd : i.desc <;> simp only [hdd] at h hdesc ⊢ <;> first | exact h.elim | skip
      rename_i E κ'
      subst hdesc
      cases hE : τ E with
      | none => simp [hE] at h
      | some ie =>
        simp only [hE] at h ⊢
        cases hsz : Nat.beq ie.size κ.sz with
        | false => simp [hsz] at h
        | true =>
          simp only [hsz] at h ⊢
          have hsz' : ie.size = κ.sz := Nat.eq_of_beq_eq_true hsz
          have hel : P.underlying T = some (.slice (P.elem T)) := by rw [elem_eq hd]; exact hd
          have hso : (Go.sizeOf (P.elem T)).run P w = .ok κ.sz w := by rw [elem_eq hd, ← hsz']; exact run_sizeOf (hτ E ie hE) w
          have hrp := dat_seq hp
          obtain ⟨a, cap, rfl, hm, hrest⟩ := hrp.seq_view
          have hcap : xs.length ≤ cap ∨ xs.length = 0 := by
            by_cases h0 : xs.length = 0
            · exact .inr h0
            · obtain ⟨_, _, _, _, hc, _⟩ := hrest h0; exact .inl hc
          have hst : ∀ v lo hi, (Instr.sliceAt T v lo hi none).run P w = (Instr.slice T v lo hi none).run P w := fun v lo hi => run_sliceAt_slice w T v lo hi none hel
          rw [hst]
          rcases hlo with ⟨rfl, rfl⟩ | ⟨x, y, rfl, rfl, hxy⟩ <;> rcases hhi with ⟨rfl, rfl⟩ | ⟨x', y', rfl, rfl, hxy'⟩
          · have := hrp.slice (l := 0) (u := xs.length) (Nat.zero_le _) (Nat.le_refl _)
            rw [List.take_length, List.drop_zero] at this
            exact ⟨_, h, rfl, sliced a 0 xs.length cap κ.sz, by rw [run_slice_all w T a _ cap hel, hso]; rfl, .dat _ _ this⟩
          · split at h <;> rename_i e1 e2 <;> simp at e1 e2 <;> try exact h.elim
            rename_i k u
            subst e2
            obtain rfl := dat_int hxy'
            have := hrp.slice (l := 0) (u := u.toNat) (Nat.zero_le _) (by omega)
            rw [List.drop_zero] at this
            exact ⟨_, h.2, ⟨h.1, rfl⟩, sliced a 0 u.toNat cap κ.sz, by rw [run_slice_h w T a _ cap hel k u h.1.1 (by omega), hso]; rfl, .dat _ _ this⟩
          · split at h <;> rename_i e1 e2 <;> simp at e1 e2 <;> try exact h.elim
            rename_i k u
            subst e1
            obtain rfl := dat_int hxy
            have := hrp.slice (l := u.toNat) (u := xs.length) (by omega) (Nat.le_refl _)
            rw [List.take_length] at this
            exact ⟨_, h.2, ⟨h.1, rfl⟩, sliced a u.toNat xs.length cap κ.sz, by rw [run_slice_l w T a _ cap hel k u h.1.1 h.1.2, hso]; rfl, .dat _ _ this⟩
          · split at h <;> rename_i e1 e2 <;> simp at e1 e2 <;> try exact h.elim
            rename_i k l k' u
            subst e1 e2
            obtain rfl := dat_int hxy
            obtain rfl := dat_int hxy'
            have := hrp.slice (l := l.toNat) (u := u.toNat) (by omega) (by omega)
            exact ⟨_, h.2, ⟨h.1, rfl⟩, sliced a l.toNat u.toNat cap κ.sz, by rw [run_slice_lh w T a _ cap hel k k' l u h.1.1 h.1.2.1 (by omega), hso]; rfl, .dat _ _ this⟩
    · exact h.elim

/-- an element of a row, as a place -/
theorem indexAddr_dat (hτ : TysOk P τ) {T E κ' : _} {i ie : TyI} {κ : K} {l : List κ.T} {v : Value} {k : IntKind} {n : Int} (ht : τ T = some i) (hd : i.desc = .slice E κ') (hE : τ E = some ie)
    (hsz : ie.size = κ.sz) (hp : AVR ρ w.heap Im (.dat (.seq κ l)) v) (h0 : 0 ≤ n) (h1 : n < l.length) :
    ∃ r, (Instr.indexAt T v (.int k n)).run P w = .ok r w ∧ AVR ρ w.heap Im (.eptr κ (l.getD n.toNat κ.dflt) 0) r := by
  obtain ⟨d, hdd, _, hdesc⟩ := (hτ T i ht).und
  simp only [hd] at hdesc
  subst hdesc
  obtain ⟨a, cap, rfl, hm, hrest⟩ := (dat_seq hp).seq_view
  obtain ⟨b, o, cf, rfl, hcap, hmax, him, hc, hr⟩ := hrest (by omega)
  have hn : n.toNat < l.length := by omega
  refine ⟨.pointer (some ⟨b, o + n.toNat * κ.sz, none⟩), ?_, ?_⟩
  · simp [Instr.indexAt, asIntOf, run_und hdd, h0, h1, run_sizeOf (hτ E ie hE), hsz, Addr.add_some]
  · exact .eptr κ _ 0 b (o + n.toNat * κ.sz) (fun j => cf n.toNat j) (fun j hj => him _ _ hn hj) (fun j hj => hc _ _ hn hj) (fun j hj => hr _ _ hn hj)

theorem indexAddr_row (hτ : TysOk P τ) (E' : Env B ρ Im w.heap) {T E κ' T' : _} {i ie : TyI} {κ : K} {l : List κ.T} {sh : Bool} {id : Nat} {v : Value} {k : IntKind} {n : Int} (ht : τ T = some i) (hd : i.desc = .slice E κ') (hE : τ E = some ie)
    (hsz : ie.size = κ.sz) (hB : B id = some (.row T' κ l sh)) (hp : AVR ρ w.heap Im (.row id) v) (h0 : 0 ≤ n) (h1 : n < l.length) :
    ∃ r, (Instr.indexAt T v (.int k n)).run P w = .ok r w ∧ AVR ρ w.heap Im (.rptr id n.toNat 0 κ.sz) r := by
  obtain ⟨d, hdd, _, hdesc⟩ := (hτ T i ht).und
  simp only [hd] at hdesc
  subst hdesc
  have hb := E'.bl id _ hB
  cases hp with
  | row _ r hi =>
    simp only [BlkR, hi] at hb
    refine ⟨.pointer (some ⟨r.b, n.toNat * κ.sz + 0, none⟩), ?_, .rptr id n.toNat 0 κ.sz r hi⟩
    have h1' : n < (r.len : Int) := by rw [hb.1]; exact h1
    simp [Instr.indexAt, asIntOf, run_und hdd, h0, h1', run_sizeOf (hτ E ie hE), hsz, Addr.add_some]
  | rowN _ hi =>
    simp only [BlkR, hi] at hb
    omega
theorem indexAddr_tree (hτ : TysOk P τ) (E' : Env B ρ Im w.heap) {T E κ' T' : _} {i ie : TyI} {κ : K} {l : List κ.T} {id : Nat} {v : Value} {k : IntKind} {n : Int} (ht : τ T = some i) (hd : i.desc = .slice E κ') (hE : τ E = some ie)
    (hsz : ie.size = κ.sz) (hB : B id = some (.tree T' κ l)) (hp : AVR ρ w.heap Im (.row id) v) (h0 : 0 ≤ n) (h1 : n < l.length) :
    ∃ r, (Instr.indexAt T v (.int k n)).run P w = .ok r w ∧ AVR ρ w.heap Im (.rptr id n.toNat 0 κ.sz) r := by
  obtain ⟨d, hdd, _, hdesc⟩ := (hτ T i ht).und
  simp only [hd] at hdesc
  subst hdesc
  have hb := E'.bl id _ hB
  cases hp with
  | row _ r hi =>
    simp only [BlkR, hi] at hb
    refine ⟨.pointer (some ⟨r.b, n.toNat * κ.sz + 0, none⟩), ?_, .rptr id n.toNat 0 κ.sz r hi⟩
    have h1' : n < (r.len : Int) := by rw [hb.1]; exact h1
    simp [Instr.indexAt, asIntOf, run_und hdd, h0, h1', run_sizeOf (hτ E ie hE), hsz, Addr.add_some]
  | rowN _ hi =>
    simp only [BlkR, hi] at hb
    omega
end
end Vg
