/- The table of types out of a program's. No condition. -/
import Derived.Test.YtlopkgjiccppfaaDoorLoop
namespace Vg
open Go

def zv : Dat → Value
  | .int k n => .int k n
  | .bool b => .bool b
  | .str s => .string s
  | .err _ => .nilIface
  | .seq _ _ => .slice none 0 0
def isZ : Dat → Bool
  | .seq _ l => l.isEmpty
  | .err b => !b
  | _ => true
def fldsB (P : Program) : List Field → List (Nat × Nat) → Bool
  | [], [] => true
  | fd :: fs, (o, E) :: l => match Nat.beq fd.offset o, Nat.beq fd.type E, (match P.info? E with | some x => !Nat.beq x.size 0 | none => false) with
    | true, true, true => fldsB P fs l
    | _, _, _ => false
  | _, _ => false

theorem fldsB_spec {P : Program} : ∀ {fs : List Field} {l : List (Nat × Nat)}, fldsB P fs l = true → fs.length = l.length ∧
    ∀ (f off E : Nat), l[f]? = some (off, E) → ∃ fd : Field, fs[f]? = some fd ∧ fd.offset = off ∧ fd.type = E ∧ ∃ x, P.info? E = some x ∧ x.size ≠ 0
  | [], [], _ => ⟨rfl, fun f off E h => by simp at h⟩
  | fd :: fs, (o, E) :: l, h => by
    simp only [fldsB] at h
    split at h
    · rename_i h1 h2 h3
      obtain ⟨h4, h5⟩ := fldsB_spec h
      refine ⟨by simp [h4], fun f off E' hl => ?_⟩
      cases f with
      | zero =>
        simp at hl
        obtain ⟨rfl, rfl⟩ := hl
        split at h3
        · rename_i x hx
          exact ⟨fd, rfl, Nat.eq_of_beq_eq_true h1, Nat.eq_of_beq_eq_true h2, x, hx, fun e => by simp [e] at h3⟩
        · cases h3
      | succ f => simp at hl; simpa using h5 f off E' hl
    · cases h
  | [], _ :: _, h => by simp [fldsB] at h
  | _ :: _, [], h => by simp [fldsB] at h

/-- what a type's description must be -/
def descOk (P : Program) (d : TypeDesc) (t : TD) : Prop :=
  match t with
  | .int k => d = .int k
  | .bool => d = .bool
  | .str => d = .string
  | .flds l => ∃ fs, d = .struct fs ∧ fldsB P fs.toList l = true
  | .slice E _ => d = .slice E
  | .ptr E => d = .pointer E
  | .iface => ∃ ms, d = .interface ms
  | .other => True

theorem TyOk.of {P : Program} {T : Nat} {i : TyI} (x : TypeInfo) (v : Value) (h1 : P.info? T = some x) (h2 : x.size = i.size) (h3 : x.bytes = i.bytes) (h4 : x.zero = some v) (h5 : v.cells = i.zero.toArray)
    (h6 : i.zero = i.zeroD.map zv) (h7 : i.zeroD.all isZ = true) (hz : Nat.beq i.zeroD.length i.size = true) (d : TypeDesc)
    (ha : (match d with | .struct _ | .array _ _ => true | _ => false) = i.agg) (hu : P.underlying T = some d) (hd : descOk P d i.desc) : TyOk P T i := by
  have hz' := Nat.eq_of_beq_eq_true hz
  refine ⟨⟨x, v, h1, h2, h3, h4, h5⟩, ⟨by rw [h6]; simpa using hz', hz'⟩, fun j z hj => ?_, ⟨d, hu, ha, ?_⟩⟩
  · refine ⟨zv z, by rw [h6]; simp [hj], by cases z <;> rfl, fun h Im => ?_⟩
    have hzz : isZ z = true := List.all_eq_true.1 h7 z (List.mem_of_getElem? hj)
    cases z with
    | int k n => exact .int k n
    | bool b => exact .bool b
    | str s => exact .str s
    | err b =>
      have : b = false := by simpa [isZ] using hzz
      subst this; exact .errN
    | seq κ l => exact .empty κ l (by simpa [isZ] using hzz) none 0
  · unfold descOk at hd
    split at hd <;> simp only [*]
    · rename_i l _
      obtain ⟨fs, he, hf⟩ := hd
      obtain ⟨hl, hff⟩ := fldsB_spec hf
      refine ⟨fs, he, by simpa using hl, fun f off E h => ?_⟩
      obtain ⟨fd, h1, h2⟩ := hff f off E h
      exact ⟨fd, by simpa using h1, h2⟩

def lookTy : List (Nat × TyI) → Tys
  | [], _ => none
  | (s, i) :: l, T => match Nat.beq s T with | true => some i | false => lookTy l T
def AllTy (P : Program) : List (Nat × TyI) → Prop
  | [] => True
  | (s, i) :: l => TyOk P s i ∧ AllTy P l
theorem lookTy_ok {P : Program} : ∀ {l : List (Nat × TyI)}, AllTy P l → TysOk P (lookTy l)
  | [], _, T, i, h => by cases h
  | (s, j) :: l, ⟨h1, h2⟩, T, i, h => by
    simp only [lookTy] at h
    split at h
    · rename_i hb
      have := Nat.eq_of_beq_eq_true hb
      subst this
      cases h; exact h1
    · exact lookTy_ok h2 T i h
end Vg
