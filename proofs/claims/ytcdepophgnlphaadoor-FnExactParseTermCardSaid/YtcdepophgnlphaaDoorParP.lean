/- Facts are read from their texts: the plain law. No condition. -/
import Derived.Test.YtcdepophgnlphaaDoorParW
import Derived.Test.YtcdepophgnlphaaDoorLawFF
namespace Vg
open Go Go.Proofs
def nb (x : ByteArray) : Prop := 32 ∉ x.data.toList
theorem nb_app {x y : ByteArray} (h : nb x) (k : nb y) : nb (x ++ y) := by
  unfold nb at *
  rw [ByteArray.data_append, Array.toList_append, List.mem_append]
  exact fun e => e.elim h k
theorem nS (u : Nat) : 32 ∉ Lib.decDigits u := fun h => by
  have := lC u 32 h
  have e : (32 : UInt8).toNat = 32 := rfl
  omega
theorem iE (n : Int) : nb (u2 n) := by
  unfold nb u2 Lib.itoa
  split
  · intro h
    have h' : (32 : UInt8) ∈ 45 :: Lib.decDigits n.natAbs := h
    rcases List.mem_cons.1 h' with e | e
    · cases e
    · exact nS _ e
  · exact nS _
theorem qG (n : Int) : nb (z6 n) := nb_app (by unfold nb; decide) (iE n)
theorem mS (k : Int) : nb (oA k) := by
  unfold nb oA
  repeat' split
  all_goals decide
theorem qE (n : Int) : (u2 n).data.toList ≠ [] := by
  unfold u2 Lib.itoa
  split
  · exact fun h => by cases (show (45 :: Lib.decDigits n.natAbs : List UInt8) = [] from h)
  · exact rH _
theorem dG (n : Int) : (z6 n).data.toList ≠ [] := by
  unfold z6
  rw [ByteArray.data_append, Array.toList_append]
  simp
theorem cW (k : Int) : (oA k).data.toList ≠ [] := by
  unfold oA
  repeat' split
  all_goals decide
theorem oW : sp1.data.toList = [32] := rfl
theorem spl_3 {x y z : ByteArray} (hx : nb x) (hy : nb y) (hz : nb z) : m9 32 ((((x ++ sp1) ++ y) ++ sp1) ++ z).data.toList = [x.data.toList, y.data.toList, z.data.toList] := by
  simp only [ByteArray.data_append, Array.toList_append, oW, List.append_assoc, List.cons_append, List.nil_append]
  rw [wD _ hx, wD _ hy, jL hz]
theorem spl_4 {x y z t : ByteArray} (hx : nb x) (hy : nb y) (hz : nb z) (ht : nb t) : m9 32 ((((((x ++ sp1) ++ y) ++ sp1) ++ z) ++ sp1) ++ t).data.toList = [x.data.toList, y.data.toList, z.data.toList, t.data.toList] := by
  simp only [ByteArray.data_append, Array.toList_append, oW, List.append_assoc, List.cons_append, List.nil_append]
  rw [wD _ hx, wD _ hy, wD _ hz, jL ht]
/-! ### tokens -/
theorem reg_at {a : Int} (h0 : 0 ≤ a) (h1 : a < 4) : z6 a = ⟨#[114, UInt8.ofNat (48 + a.toNat)]⟩ := by
  unfold z6 u2 Lib.itoa
  rw [if_neg omG, Lib.decDigits_one omG]
  apply ByteArray.ext
  rw [ByteArray.data_append]; rfl
theorem qZ {a : Int} (h0 : 0 ≤ a) (h1 : a < 4) : regX (z6 a) = (a, true) := by
  rw [reg_at h0 h1]
  have : a = 0 ∨ a = 1 ∨ a = 2 ∨ a = 3 := by omega
  rcases this with rfl | rfl | rfl | rfl <;> decide
theorem jB {a : Int} (h0 : 0 ≤ a) (h1 : a < 4) : opI (z6 a) = a := by
  unfold opI
  rw [qZ h0 h1]; rfl
theorem eU {n : Int} (h0 : 0 ≤ n) : y9 (u2 n) 0 ≠ 114 := by
  unfold y9 u2 Lib.itoa
  rw [if_neg omG]
  show (((Lib.decDigits n.toNat).getD 0 0).toNat : Int) ≠ 114
  cases e : Lib.decDigits n.toNat with
  | nil => exact absurd e (rH _)
  | cons c r =>
    have := lC n.toNat c (by rw [e]; simp)
    show ((c.toNat : Nat) : Int) ≠ 114
    omega
theorem kG {n : Int} (h0 : 0 ≤ n) (h1 : n < 256) : opI (u2 n) = n := by
  have : regX (u2 n) = (0, false) := if_neg (fun k => eU h0 k.2.1)
  unfold opI
  rw [this, bJ omG omG]; rfl
theorem nG {n : Int} (h0 : 0 ≤ n) (h1 : n < 256) : nA (u2 n) = n := by
  unfold nA nuX0
  rw [if_neg (fun k => eU h0 k.2), bJ omG omG]
theorem mB {a : Int} (h0 : 0 ≤ a) (h1 : a < 4) : nA (z6 a) = a := by
  have e : (z6 a).data.toList = 114 :: Lib.itoa a := by
    unfold z6
    rw [ByteArray.data_append, Array.toList_append]; rfl
  have hz : 0 < (z6 a).size := by
    have : (z6 a).data.toList.length = (z6 a).size := rfl
    rw [e] at this; simp at this; omega
  have hb : y9 (z6 a) 0 = 114 := by unfold y9; rw [e]; rfl
  have hx : (z6 a).extract 1 (z6 a).size = u2 a := by
    apply ByteArray.ext
    apply Array.ext'
    rw [Lib.extract_to_end, e]; rfl
  unfold nA nuX0
  rw [if_pos ⟨hz, hb⟩, hx, bJ omG omG]
def dA (w : ByteArray) : Nat → Int
  | 0 => 0
  | k + 1 => if oA ((k : Int) + 1) = w then (k : Int) + 1 else dA w k
theorem wk_fact {k : Int} (h0 : 1 ≤ k) (h1 : k ≤ 6) : dA (oA k) 6 = k := by
  have : k = 1 ∨ k = 2 ∨ k = 3 ∨ k = 4 ∨ k = 5 ∨ k = 6 := by omega
  rcases this with rfl | rfl | rfl | rfl | rfl | rfl <;> decide
abbrev sAt (l : List ByteArray) (j : Nat) : ByteArray := l.getD j K.strs.dflt
noncomputable def yC (l : List ByteArray) : V.Fact :=
  ⟨dA (sAt l 1) 6, opI (sAt l 0), if dA (sAt l 1) 6 = 1 ∨ dA (sAt l 1) 6 = 3 then 0 else opI (sAt l 2), if l.length = 4 then opI (sAt l 3) else if dA (sAt l 1) 6 = 1 ∨ dA (sAt l 1) 6 = 3 then opI (sAt l 2) else 0⟩
noncomputable def xC (l : List ByteArray) : V.Fact :=
  if l.length = 4 then ⟨dA (sAt l 1) 6, nA (sAt l 0), nA (sAt l 2), nA (sAt l 3)⟩
  else if dA (sAt l 1) 6 = 1 ∨ dA (sAt l 1) 6 = 3 then ⟨dA (sAt l 1) 6, nA (sAt l 0), 0, nA (sAt l 2)⟩
  else ⟨dA (sAt l 1) 6, nA (sAt l 0), nA (sAt l 2), 0⟩
structure TextF (p : V.Prog) (f : V.Fact) (s : ByteArray) : Prop where
  ok : (aE p && x9 p.w f) = true
  eq : fmtS p f = s
structure TextR (f : V.Fact) (l : List ByteArray) : Prop where
  rI : yC l = f
  rS : xC l = f
  n3 : 3 ≤ l.length
  n4 : l.length ≤ 4
theorem gP {s : ByteArray} {l : List ByteArray} (h : m9 32 s.data.toList = l.map (·.data.toList)) (hl : ∀ x ∈ l, x.data.toList ≠ []) : zF 32 s = l ∧ pF s = l := by
  have e : (l.map (·.data.toList)).map m0 = l := by rw [List.map_map]; exact List.map_id l
  refine ⟨by unfold zF; rw [h, e], ?_⟩
  unfold pF
  rw [h, List.filter_eq_self.2 (fun x hx => ?_), e]
  obtain ⟨y, hy, rfl⟩ := List.mem_map.1 hx
  cases e2 : y.data.toList with
  | nil => exact absurd e2 (hl y hy)
  | cons a b => rfl
theorem regP_of {w : Int} {f : V.Fact} (h : x9 w f = true) : (0 ≤ f.a ∧ f.a < 4) ∧ regP f.a = true := by
  have hr : regP f.a = true := by
    cases e : regP f.a with
    | true => rfl
    | false => unfold x9 at h; rw [if_pos e] at h; cases h
  refine ⟨?_, hr⟩
  simp [regP, inP] at hr
  omega
theorem vP {p : V.Prog} {f : V.Fact} {s : ByteArray} (h : TextF p f s) : ∃ l, zF 32 s = l ∧ pF s = l ∧ TextR f l := by
  obtain ⟨ok, eq⟩ := h
  have hr := fcb_r ok
  have hf : x9 p.w f = true := (Bool.and_eq_true _ _ ▸ ok).2
  rw [fmt_y ok] at eq
  subst eq
  obtain ⟨k, a, b, n⟩ := f
  have ha := hr.a
  have hb := hr.b
  have hn := hr.n
  have hk := hr.k
  simp only at ha hb hn hk
  have hra := regP_of hf
  simp only at hra
  have hkk : k = 1 ∨ k = 2 ∨ k = 3 ∨ k = 4 ∨ k = 5 ∨ k = 6 := by omega
  have key3 : ∀ (z : ByteArray), nb z → z.data.toList ≠ [] → dB ⟨k, a, b, n⟩ = vE ⟨k, a, b, n⟩ ++ z → TextR ⟨k, a, b, n⟩ [z6 a, oA k, z] → ∃ l, zF 32 (dB ⟨k, a, b, n⟩) = l ∧ pF (dB ⟨k, a, b, n⟩) = l ∧ TextR ⟨k, a, b, n⟩ l := by
    intro z hz hz0 e ht
    have h3 := spl_3 (qG a) (mS k) hz
    have := gP (s := dB ⟨k, a, b, n⟩) (l := [z6 a, oA k, z]) (by rw [e]; exact h3) (by
      intro x hx
      simp at hx
      rcases hx with rfl | rfl | rfl
      · exact dG a
      · exact cW k
      · exact hz0)
    exact ⟨_, this.1, this.2, ht⟩
  have key4 : ∀ (z t : ByteArray), nb z → z.data.toList ≠ [] → nb t → t.data.toList ≠ [] → dB ⟨k, a, b, n⟩ = ((vE ⟨k, a, b, n⟩ ++ z) ++ sp1) ++ t → TextR ⟨k, a, b, n⟩ [z6 a, oA k, z, t] → ∃ l, zF 32 (dB ⟨k, a, b, n⟩) = l ∧ pF (dB ⟨k, a, b, n⟩) = l ∧ TextR ⟨k, a, b, n⟩ l := by
    intro z t hz hz0 ht0 ht1 e ht
    have h3 := spl_4 (qG a) (mS k) hz ht0
    have := gP (s := dB ⟨k, a, b, n⟩) (l := [z6 a, oA k, z, t]) (by rw [e]; exact h3) (by
      intro x hx
      simp at hx
      rcases hx with rfl | rfl | rfl | rfl
      · exact dG a
      · exact cW k
      · exact hz0
      · exact ht1)
    exact ⟨_, this.1, this.2, ht⟩
  have hw := wk_fact hk.1 hk.2
  rcases hkk with rfl | rfl | rfl | rfl | rfl | rfl
  · have hb0 : b = 0 := by simp [x9, hra.2] at hf; omega
    refine key3 (u2 n) (iE n) (qE n) rfl ⟨?_, ?_, by simp, by simp⟩
    · simp only [yC, sAt, List.getD_cons_succ, List.getD_cons_zero, hw]
      rw [jB ha.1 ha.2, kG hn.1 hn.2, hb0]; rfl
    · simp only [xC, sAt, List.getD_cons_succ, List.getD_cons_zero, hw]
      rw [mB ha.1 ha.2, nG hn.1 hn.2, hb0]; rfl
  · have hb0 : 0 ≤ b ∧ b < 4 ∧ n = 0 := by simp [x9, regP, inP] at hf; omega
    refine key3 (z6 b) (qG b) (dG b) rfl ⟨?_, ?_, by simp, by simp⟩
    · simp only [yC, sAt, List.getD_cons_succ, List.getD_cons_zero, hw]
      rw [jB ha.1 ha.2, jB hb0.1 hb0.2.1, hb0.2.2]; rfl
    · simp only [xC, sAt, List.getD_cons_succ, List.getD_cons_zero, hw]
      rw [mB ha.1 ha.2, mB hb0.1 hb0.2.1, hb0.2.2]; rfl
  · have hb0 : b = 0 := by simp [x9, hra.2] at hf; omega
    refine key3 (u2 n) (iE n) (qE n) rfl ⟨?_, ?_, by simp, by simp⟩
    · simp only [yC, sAt, List.getD_cons_succ, List.getD_cons_zero, hw]
      rw [jB ha.1 ha.2, kG hn.1 hn.2, hb0]; rfl
    · simp only [xC, sAt, List.getD_cons_succ, List.getD_cons_zero, hw]
      rw [mB ha.1 ha.2, nG hn.1 hn.2, hb0]; rfl
  · refine key4 (u2 b) (u2 n) (iE b) (qE b) (iE n) (qE n) rfl ⟨?_, ?_, by simp, by simp⟩
    · simp only [yC, sAt, List.getD_cons_succ, List.getD_cons_zero, hw]
      rw [jB ha.1 ha.2, kG hb.1 omG, kG hn.1 hn.2]; rfl
    · simp only [xC, sAt, List.getD_cons_succ, List.getD_cons_zero, hw]
      rw [mB ha.1 ha.2, nG hb.1 omG, nG hn.1 hn.2]; rfl
  · have hb0 : 0 ≤ b ∧ b < 4 := by simp [x9, regP, inP] at hf; omega
    refine key4 (z6 b) (u2 n) (qG b) (dG b) (iE n) (qE n) rfl ⟨?_, ?_, by simp, by simp⟩
    · simp only [yC, sAt, List.getD_cons_succ, List.getD_cons_zero, hw]
      rw [jB ha.1 ha.2, jB hb0.1 hb0.2, kG hn.1 hn.2]; rfl
    · simp only [xC, sAt, List.getD_cons_succ, List.getD_cons_zero, hw]
      rw [mB ha.1 ha.2, mB hb0.1 hb0.2, nG hn.1 hn.2]; rfl
  · have hb0 : 0 ≤ b ∧ b < 4 ∧ n = 0 := by simp [x9, regP, inP] at hf; omega
    refine key3 (z6 b) (qG b) (dG b) rfl ⟨?_, ?_, by simp, by simp⟩
    · simp only [yC, sAt, List.getD_cons_succ, List.getD_cons_zero, hw]
      rw [jB ha.1 ha.2, jB hb0.1 hb0.2.1, hb0.2.2]; rfl
    · simp only [xC, sAt, List.getD_cons_succ, List.getD_cons_zero, hw]
      rw [mB ha.1 ha.2, mB hb0.1 hb0.2.1, hb0.2.2]; rfl
theorem TextF.uniq {p : V.Prog} {s : ByteArray} {f g : V.Fact} (h : TextF p f s) (k : TextF p g s) : f = g := by
  obtain ⟨l, e, _, r⟩ := vP h
  obtain ⟨l', e', _, r'⟩ := vP k
  rw [e] at e'
  subst e'
  exact r.rI.symm.trans r'.rI
end Vg
