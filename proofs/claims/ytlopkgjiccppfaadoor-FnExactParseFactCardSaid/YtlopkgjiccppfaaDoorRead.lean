/- What a law's arguments hold, read as data. No condition. -/
import Derived.Test.YtlopkgjiccppfaaDoorTy
import Derived.ProofKit
namespace Vg
open Go

inductive Sh where
  | int (k : IntKind)
  | bool
  | str
  | seq (κ : K)
  deriving DecidableEq

def Sh.ok : Sh → Dat → Prop
  | .int k, .int k' n => k' = k ∧ (Lit.int k n).wf = true
  | .bool, .bool _ => True
  | .str, .str s => s.size ≤ maxLen
  | .seq κ, .seq κ' l => κ' = κ ∧ l.length ≤ maxLen
  | _, _ => False
def ShL : List Sh → List Dat → Prop
  | [], [] => True
  | s :: ss, d :: ds => s.ok d ∧ ShL ss ds
  | _, _ => False

abbrev i64 : Sh := .int .i64
def K.sh : K → List Sh
  | .ints => [i64]
  | .bools => [.bool]
  | .strs => [.str]
  | .intss => [.seq .ints]
  | .inss => [i64, i64, i64, i64]
  | .progs => [i64, i64, i64, .seq .inss]
  | .facts => [i64, i64, i64, i64]
  | .states => [i64, .seq .ints, .seq .ints, .seq .ints, i64, .seq .ints, i64, i64]
  | .bytes => [.int .u8]

theorem ok_int {d : Dat} (h : i64.ok d) : ∃ n, d = .i n := by
  cases d with
  | int k n => obtain ⟨rfl, _⟩ := h; exact ⟨n, rfl⟩
  | _ => exact h.elim
theorem ok_intk {q : IntKind} {d : Dat} (h : (Sh.int q).ok d) : ∃ n, d = .int q n := by
  cases d with
  | int k n => obtain ⟨rfl, _⟩ := h; exact ⟨n, rfl⟩
  | _ => exact h.elim
theorem ok_bool {d : Dat} (h : Sh.bool.ok d) : ∃ b, d = .bool b := by
  cases d with
  | bool b => exact ⟨b, rfl⟩
  | _ => exact h.elim
theorem ok_str {d : Dat} (h : Sh.str.ok d) : ∃ s, d = .str s := by
  cases d with
  | str s => exact ⟨s, rfl⟩
  | _ => exact h.elim
theorem ok_seq {κ : K} {d : Dat} (h : (Sh.seq κ).ok d) : ∃ l, d = .seq κ l := by
  cases d with
  | seq κ' l => obtain ⟨rfl, _⟩ := h; exact ⟨l, rfl⟩
  | _ => exact h.elim
theorem ShL_cons {s : Sh} {ss : List Sh} {ds : List Dat} (h : ShL (s :: ss) ds) : ∃ d r, ds = d :: r ∧ s.ok d ∧ ShL ss r := by
  cases ds with
  | nil => exact h.elim
  | cons d r => exact ⟨d, r, rfl, h.1, h.2⟩
theorem ShL_nil {ds : List Dat} (h : ShL [] ds) : ds = [] := by
  cases ds with
  | nil => rfl
  | cons d r => exact h.elim

theorem K.of_sh : ∀ {κ : K} {ds : List Dat}, ShL κ.sh ds → ∃ x : κ.T, κ.enc x = ds := by
  intro κ ds h
  cases κ <;> simp only [K.sh] at h
  · obtain ⟨_, _, rfl, h1, h⟩ := ShL_cons h
    obtain rfl := ShL_nil h
    obtain ⟨n, rfl⟩ := ok_int h1
    exact ⟨n, rfl⟩
  · obtain ⟨_, _, rfl, h1, h⟩ := ShL_cons h
    obtain rfl := ShL_nil h
    obtain ⟨n, rfl⟩ := ok_bool h1
    exact ⟨n, rfl⟩
  · obtain ⟨_, _, rfl, h1, h⟩ := ShL_cons h
    obtain rfl := ShL_nil h
    obtain ⟨n, rfl⟩ := ok_str h1
    exact ⟨n, rfl⟩
  · obtain ⟨_, _, rfl, h1, h⟩ := ShL_cons h
    obtain rfl := ShL_nil h
    obtain ⟨n, rfl⟩ := ok_seq h1
    exact ⟨n, rfl⟩
  · obtain ⟨_, _, rfl, h1, h⟩ := ShL_cons h
    obtain ⟨_, _, rfl, h2, h⟩ := ShL_cons h
    obtain ⟨_, _, rfl, h3, h⟩ := ShL_cons h
    obtain ⟨_, _, rfl, h4, h⟩ := ShL_cons h
    obtain rfl := ShL_nil h
    obtain ⟨a, rfl⟩ := ok_int h1
    obtain ⟨b, rfl⟩ := ok_int h2
    obtain ⟨c, rfl⟩ := ok_int h3
    obtain ⟨d, rfl⟩ := ok_int h4
    exact ⟨(⟨a, b, c, d⟩ : V.Ins), rfl⟩
  · obtain ⟨_, _, rfl, h1, h⟩ := ShL_cons h
    obtain ⟨_, _, rfl, h2, h⟩ := ShL_cons h
    obtain ⟨_, _, rfl, h3, h⟩ := ShL_cons h
    obtain ⟨_, _, rfl, h4, h⟩ := ShL_cons h
    obtain rfl := ShL_nil h
    obtain ⟨a, rfl⟩ := ok_int h1
    obtain ⟨b, rfl⟩ := ok_int h2
    obtain ⟨c, rfl⟩ := ok_int h3
    obtain ⟨d, rfl⟩ := ok_seq h4
    exact ⟨(⟨a, b, c, d⟩ : V.Prog), rfl⟩
  · obtain ⟨_, _, rfl, h1, h⟩ := ShL_cons h
    obtain ⟨_, _, rfl, h2, h⟩ := ShL_cons h
    obtain ⟨_, _, rfl, h3, h⟩ := ShL_cons h
    obtain ⟨_, _, rfl, h4, h⟩ := ShL_cons h
    obtain rfl := ShL_nil h
    obtain ⟨a, rfl⟩ := ok_int h1
    obtain ⟨b, rfl⟩ := ok_int h2
    obtain ⟨c, rfl⟩ := ok_int h3
    obtain ⟨d, rfl⟩ := ok_int h4
    exact ⟨(⟨a, b, c, d⟩ : V.Fact), rfl⟩
  · obtain ⟨_, _, rfl, h1, h⟩ := ShL_cons h
    obtain ⟨_, _, rfl, h2, h⟩ := ShL_cons h
    obtain ⟨_, _, rfl, h3, h⟩ := ShL_cons h
    obtain ⟨_, _, rfl, h4, h⟩ := ShL_cons h
    obtain ⟨_, _, rfl, h5, h⟩ := ShL_cons h
    obtain ⟨_, _, rfl, h6, h⟩ := ShL_cons h
    obtain ⟨_, _, rfl, h7, h⟩ := ShL_cons h
    obtain ⟨_, _, rfl, h8, h⟩ := ShL_cons h
    obtain rfl := ShL_nil h
    obtain ⟨a, rfl⟩ := ok_int h1
    obtain ⟨b, rfl⟩ := ok_seq h2
    obtain ⟨c, rfl⟩ := ok_seq h3
    obtain ⟨d, rfl⟩ := ok_seq h4
    obtain ⟨e, rfl⟩ := ok_int h5
    obtain ⟨f, rfl⟩ := ok_seq h6
    obtain ⟨g, rfl⟩ := ok_int h7
    obtain ⟨i, rfl⟩ := ok_int h8
    exact ⟨(⟨a, b, c, d, e, f, g, i⟩ : V.State), rfl⟩
  · obtain ⟨_, _, rfl, h1, h⟩ := ShL_cons h
    obtain rfl := ShL_nil h
    obtain ⟨n, rfl⟩ := ok_intk h1
    exact ⟨n, rfl⟩

theorem ShL.length : ∀ {ss : List Sh} {ds : List Dat}, ShL ss ds → ds.length = ss.length
  | [], [], _ => rfl
  | _ :: ss, _ :: ds, h => by simp [ShL.length h.2]
  | [], _ :: _, h => h.elim
  | _ :: _, [], h => h.elim
theorem ShL.append : ∀ {ss : List Sh} {ds : List Dat} {ss' : List Sh} {ds' : List Dat}, ShL ss ds → ShL ss' ds' → ShL (ss ++ ss') (ds ++ ds')
  | [], [], _, _, _, h' => h'
  | _ :: _, _ :: _, _, _, h, h' => ⟨h.1, ShL.append h.2 h'⟩
  | [], _ :: _, _, _, h, _ => h.elim
  | _ :: _, [], _, _, h, _ => h.elim

def fieldsSh (g : Nat → Option (List Sh)) : List Field → Nat → Option (List Sh)
  | [], _ => some []
  | fd :: fs, off => match Nat.beq fd.offset off with
    | true => match g fd.type with
      | some ss => match fieldsSh g fs (off + ss.length) with
        | some r => some (ss ++ r)
        | none => none
      | none => none
    | false => none

/-- the cells of a type that can be read as data -/
def shOf (P : Program) (τ : Tys) : Nat → Nat → Option (List Sh)
  | 0, _ => none
  | f + 1, t => match P.underlying t with
    | some (.int k) => some [.int k]
    | some .bool => some [.bool]
    | some .string => some [.str]
    | some (.slice e) => match τ t with
      | some i => match i.desc with
        | .slice _ κ => if shOf P τ f e = some κ.sh then some [.seq κ] else none
        | _ => none
      | none => none
    | some (.struct fs) => match fieldsSh (shOf P τ f) fs.toList 0 with
      | some r => match Nat.beq (P.cellsOf t) r.length with
        | true => some r
        | false => none
      | none => none
    | _ => none

section
variable {P : Program} {τ : Tys} {H : Type} {enc : TypeId × Value → H} {w : World} {base : Nat} {spare : Nat → Bool} {held : Bool}

abbrev allIm (w : World) : Nat → Nat → Prop := fun b _ => b < w.heap.size

/-- the cells cs hold the data ds -/
def Holds (w : World) (ds : List Dat) (cs : List Value) : Prop := ds.length = cs.length ∧ ∀ (j : Nat) (d : Dat) (v : Value), ds[j]? = some d → cs[j]? = some v → RepD w.heap (allIm w) d v

theorem holds_one {d : Dat} {v : Value} (h : RepD w.heap (allIm w) d v) : Holds w [d] [v] := by
  refine ⟨rfl, fun j d' v' h1 h2 => ?_⟩
  cases j with
  | zero => simp at h1 h2; subst h1 h2; exact h
  | succ j => simp at h1

theorem fields_read {n : Nat} {g : Nat → Option (List Sh)} {cs : List Value}
    (ih : ∀ t ss c x, g t = some ss → DataW.trod enc P w base spare held n t c = some x → ∃ ds, ShL ss ds ∧ Holds w ds c) :
    ∀ (fs : List Field) (off : Nat) (r : List Sh) (xs : List (DataW H × List MemPlace)), fieldsSh g fs off = some r → xs.length = fs.length →
      (∀ (i : Nat) (f : Field), fs[i]? = some f → DataW.trod enc P w base spare held n f.type ((cs.drop f.offset).take (P.cellsOf f.type)) = xs[i]?) →
      ∃ ds, ShL r ds ∧ ∀ (j : Nat) (d : Dat) (v : Value), ds[j]? = some d → cs[off + j]? = some v → RepD w.heap (allIm w) d v
  | [], off, r, xs, h, _, _ => by
    simp only [fieldsSh] at h
    cases h
    exact ⟨[], trivial, fun j d v h => by simp at h⟩
  | fd :: fs, off, r, xs, h, hl, hx => by
    simp only [fieldsSh] at h
    split at h
    · rename_i hoff
      have hoff := Nat.eq_of_beq_eq_true hoff
      split at h
      · rename_i ss hss
        split at h
        · rename_i r' hr'
          cases h
          cases xs with
          | nil => simp at hl
          | cons x xs =>
            have h0 := hx 0 fd rfl
            simp only [List.getElem?_cons_zero] at h0
            obtain ⟨ds, hsh, hlen, hrep⟩ := ih _ _ _ _ hss h0
            obtain ⟨ds', hsh', hrep'⟩ := fields_read ih fs (off + ss.length) r' xs hr' (by simpa using hl) (fun i f hi => by simpa using hx (i + 1) f (by simpa using hi))
            refine ⟨ds ++ ds', hsh.append hsh', fun j d v hd hv => ?_⟩
            by_cases hj : j < ds.length
            · rw [List.getElem?_append_left hj] at hd
              refine hrep j d v hd ?_
              have h1 : j < ((cs.drop fd.offset).take (P.cellsOf fd.type)).length := by omega
              rw [List.getElem?_take, if_pos (by simp at h1; omega), List.getElem?_drop, hoff]
              exact hv
            · rw [List.getElem?_append_right (by omega)] at hd
              refine hrep' _ d v hd ?_
              rw [hsh.length] at hj ⊢
              rw [show off + ss.length + (j - ss.length) = off + j from by omega]
              exact hv
        · cases h
      · cases h
    · cases h

theorem trod_read (hτ : TysOk P τ) : ∀ (f : Nat) (t : Nat) (ss : List Sh) (n : Nat) (cs : List Value) (x : DataW H × List MemPlace), shOf P τ f t = some ss →
    DataW.trod enc P w base spare held n t cs = some x → ∃ ds, ShL ss ds ∧ Holds w ds cs
  | 0, t, ss, n, cs, x, h, _ => by cases h
  | f + 1, t, ss, n, cs, x, h, hx => by
    have ih := trod_read hτ f
    simp only [shOf] at h
    split at h
    · rename_i k hu
      cases h
      obtain ⟨m, rfl, _, hw⟩ := DataW.trod_int hu hx
      exact ⟨[.int k m], ⟨⟨rfl, hw⟩, trivial⟩, holds_one (.int k m)⟩
    · rename_i hu
      cases h
      obtain ⟨b, rfl, _⟩ := DataW.trod_bool hu hx
      exact ⟨[.bool b], ⟨trivial, trivial⟩, holds_one (.bool b)⟩
    · rename_i hu
      cases h
      obtain ⟨s, rfl, _, hs⟩ := DataW.trod_string hu hx
      exact ⟨[.str s], ⟨hs, trivial⟩, holds_one (.str s)⟩
    · rename_i e hu
      split at h
      · split at h
        · rename_i κ _
          split at h
          · rename_i hsh
            cases h
            rcases DataW.trod_slice hu hx with ⟨rfl, _⟩ | ⟨a, len, cap, elems, rest, n', _, rfl, _, hb, hl, hm, hlen, hel, _, _⟩
            · exact ⟨[.seq κ []], ⟨⟨rfl, Nat.zero_le _⟩, trivial⟩, holds_one (.empty κ [] rfl none 0)⟩
            · by_cases h0 : len = 0
              · subst h0
                exact ⟨[.seq κ []], ⟨⟨rfl, Nat.zero_le _⟩, trivial⟩, holds_one (.empty κ [] rfl (some a) cap)⟩
              · have each : ∀ k, k < len → ∃ (y : κ.T) (cs' : List Value), w.cells? base (a.add (k * P.cellsOf e)) (P.cellsOf e) = some cs' ∧ Holds w (κ.enc y) cs' := fun k hk => by
                  have h1 := hel k hk
                  have h2 : k < elems.length := by omega
                  rw [List.getElem?_eq_getElem h2, Option.bind_eq_some_iff] at h1
                  obtain ⟨cs', hcs, hy⟩ := h1
                  obtain ⟨ds, hds, hh⟩ := ih _ _ _ _ _ hsh hy
                  obtain ⟨y, rfl⟩ := K.of_sh hds
                  exact ⟨y, cs', hcs, hh⟩
                have hsz : P.cellsOf e = κ.sz := by
                  obtain ⟨y, cs', hcs, hh⟩ := each 0 (by omega)
                  rw [← (World.cells?_some hcs).2.1, ← hh.1, κ.enc_length]
                have hpos := κ.sz_pos
                have hspot : a.spot = none := by
                  obtain ⟨y, cs', hcs, hh⟩ := each 0 (by omega)
                  have h1 := (World.cells?_some hcs).2.2 0 (by omega)
                  have h2 : 0 < cs'.length := by rw [(World.cells?_some hcs).2.1]; omega
                  rw [List.getElem?_eq_getElem h2] at h1
                  simp only [Nat.zero_mul, Addr.add, if_true] at h1
                  unfold World.cell? at h1
                  split at h1
                  · cases hs : a.spot with
                    | none => rfl
                    | some z => simp [hs] at h1
                  · cases h1
                obtain ⟨b, o, spot⟩ := a
                simp only at hspot
                subst hspot
                have hadd : ∀ k j, ((⟨b, o, none⟩ : Addr).add k).add j = ⟨b, o + k + j, none⟩ := fun k j => by
                  simp only [Addr.add]
                  split <;> split <;> simp_all
                have hg : ∃ g : Nat → κ.T, ∀ k, k < len → ∃ cs', w.cells? base ((⟨b, o, none⟩ : Addr).add (k * P.cellsOf e)) (P.cellsOf e) = some cs' ∧ Holds w (κ.enc (g k)) cs' := by
                  refine ⟨fun k => if hk : k < len then (each k hk).choose else κ.dflt, fun k hk => ?_⟩
                  simp only [hk, dif_pos]
                  exact (each k hk).choose_spec
                obtain ⟨g, hg⟩ := hg
                let l := (List.range len).map g
                have hll : l.length = len := by simp [l]
                have hlg : ∀ k, k < len → l.getD k κ.dflt = g k := fun k hk => by simp [l, List.getD_eq_getElem?_getD, hk]
                have hcell' : ∀ k j, k < len → j < κ.sz → ∃ v, hcell w.heap b (o + k * κ.sz + j) = some v ∧ RepD w.heap (allIm w) ((κ.enc (g k)).getD j (.bool false)) v := fun k j hk hj => by
                  obtain ⟨cs', hcs, hh⟩ := hg k hk
                  obtain ⟨_, h2, h3⟩ := World.cells?_some hcs
                  have h4 := h3 j (by omega)
                  rw [hadd, hsz, cell?_eq] at h4
                  have h5 : j < cs'.length := by omega
                  rw [List.getElem?_eq_getElem h5] at h4
                  refine ⟨_, h4, ?_⟩
                  have h6 : j < (κ.enc (g k)).length := by rw [κ.enc_length]; exact hj
                  refine hh.2 j _ _ ?_ (List.getElem?_eq_getElem h5)
                  rw [List.getD_eq_getElem?_getD, List.getElem?_eq_getElem h6]; rfl
                refine ⟨[.seq κ l], ⟨⟨rfl, by rw [hll]; exact Nat.le_trans hl hm⟩, trivial⟩, holds_one ?_⟩
                have hR := RepD.seq (h := w.heap) (Im := allIm w) κ l b o cap (fun k j => (hcell w.heap b (o + k * κ.sz + j)).getD undef) (by rw [hll]; exact hl) hm
                  (fun k j hk hj => by obtain ⟨v, h1, _⟩ := hcell' k j (by omega) hj; exact hcell_lt h1)
                  (fun k j hk hj => by obtain ⟨v, h1, _⟩ := hcell' k j (by omega) hj; rw [h1]; rfl)
                  (fun k j hk hj => by
                    obtain ⟨v, h1, h2⟩ := hcell' k j (by omega) hj
                    rw [h1]
                    unfold cellOf
                    rw [hlg k (by omega)]
                    exact h2)
                rw [hll] at hR
                exact hR
          · cases h
        · cases h
      · cases h
    · rename_i fs hu
      split at h
      · rename_i r hr
        split at h
        · rename_i hc
          have hc := Nat.eq_of_beq_eq_true hc
          cases h
          obtain ⟨xs, n', _, _, hcl, hxl, hel⟩ := DataW.trod_struct hu hx
          obtain ⟨ds, h1, h2⟩ := fields_read (fun t ss c x h hx => ih t ss n' c x h hx) fs.toList 0 ss xs hr (by simpa using hxl) (fun i f hi => hel i f (by simpa using hi))
          exact ⟨ds, h1, by rw [h1.length, hcl, hc], fun j d v hd hv => h2 j d v hd (by simpa using hv)⟩
        · cases h
      · cases h
    · cases h

end
end Vg
