/- Facts are read from their texts: the plain law. No condition. -/
import Derived.Test.YtgbjdifegilniaaGreatDoorParW
import Derived.Test.YtgbjdifegilniaaGreatDoorLawFF
namespace Vg
open Go Go.Proofs
def nb (x : ByteArray) : Prop := 32 ∉ x.data.toList
theorem nb_app {x y : ByteArray} (h : nb x) (k : nb y) : nb (x ++ y) := by
  unfold nb at *
  rw [ByteArray.data_append, Array.toList_append, List.mem_append]
  exact fun e => e.elim h k
theorem eW (u : Nat) : 32 ∉ Lib.decDigits u := fun h => by
  have := lF u 32 h
  have e : (32 : UInt8).toNat = 32 := rfl
  omega
theorem tD (n : Int) : nb (s1 n) := by
  unfold nb s1 Lib.itoa
  split
  · intro h
    have h' : (32 : UInt8) ∈ 45 :: Lib.decDigits n.natAbs := h
    rcases List.mem_cons.1 h' with e | e
    · cases e
    · exact eW _ e
  · exact eW _
theorem zC (n : Int) : nb (o5 n) := nb_app (by unfold nb; decide) (tD n)
theorem dW (k : Int) : nb (xB k) := by
  unfold nb xB
  repeat' split
  all_goals decide
theorem eF (n : Int) : (s1 n).data.toList ≠ [] := by
  unfold s1 Lib.itoa
  split
  · exact fun h => by cases (show (45 :: Lib.decDigits n.natAbs : List UInt8) = [] from h)
  · exact jM _
theorem lI (n : Int) : (o5 n).data.toList ≠ [] := by
  unfold o5
  rw [ByteArray.data_append, Array.toList_append]
  simp
theorem pZ (k : Int) : (xB k).data.toList ≠ [] := by
  unfold xB
  repeat' split
  all_goals decide
theorem mQ : sp1.data.toList = [32] := rfl
theorem spl_3 {x y z : ByteArray} (hx : nb x) (hy : nb y) (hz : nb z) : d6 32 ((((x ++ sp1) ++ y) ++ sp1) ++ z).data.toList = [x.data.toList, y.data.toList, z.data.toList] := by
  simp only [ByteArray.data_append, Array.toList_append, mQ, List.append_assoc, List.cons_append, List.nil_append]
  rw [kD _ hx, kD _ hy, cC hz]
theorem spl_4 {x y z t : ByteArray} (hx : nb x) (hy : nb y) (hz : nb z) (ht : nb t) : d6 32 ((((((x ++ sp1) ++ y) ++ sp1) ++ z) ++ sp1) ++ t).data.toList = [x.data.toList, y.data.toList, z.data.toList, t.data.toList] := by
  simp only [ByteArray.data_append, Array.toList_append, mQ, List.append_assoc, List.cons_append, List.nil_append]
  rw [kD _ hx, kD _ hy, kD _ hz, cC ht]
/-! ### tokens -/
theorem reg_at {a : Int} (h0 : 0 ≤ a) (h1 : a < 4) : o5 a = ⟨#[114, UInt8.ofNat (48 + a.toNat)]⟩ := by
  unfold o5 s1 Lib.itoa
  rw [if_neg omG, Lib.decDigits_one omG]
  apply ByteArray.ext
  rw [ByteArray.data_append]; rfl
theorem qch {a : Int} (h0 : 0 ≤ a) (h1 : a < 4) : xA (o5 a) = (a, true) := by
  rw [reg_at h0 h1]
  have : a = 0 ∨ a = 1 ∨ a = 2 ∨ a = 3 := by omega
  rcases this with rfl | rfl | rfl | rfl <;> decide
theorem bA {a : Int} (h0 : 0 ≤ a) (h1 : a < 4) : s6 (o5 a) = a := by
  unfold s6
  rw [qch h0 h1]; rfl
theorem kX {n : Int} (h0 : 0 ≤ n) : pB (s1 n) 0 ≠ 114 := by
  unfold pB s1 Lib.itoa
  rw [if_neg omG]
  show (((Lib.decDigits n.toNat).getD 0 0).toNat : Int) ≠ 114
  cases e : Lib.decDigits n.toNat with
  | nil => exact absurd e (jM _)
  | cons c r =>
    have := lF n.toNat c (by rw [e]; simp)
    show ((c.toNat : Nat) : Int) ≠ 114
    omega
theorem rD {n : Int} (h0 : 0 ≤ n) (h1 : n < 256) : s6 (s1 n) = n := by
  have : xA (s1 n) = (0, false) := if_neg (fun k => kX h0 k.2.1)
  unfold s6
  rw [this, cG omG omG]; rfl
theorem wI {n : Int} (h0 : 0 ≤ n) (h1 : n < 256) : vB (s1 n) = n := by
  unfold vB nuX0
  rw [if_neg (fun k => kX h0 k.2), cG omG omG]
theorem wC {a : Int} (h0 : 0 ≤ a) (h1 : a < 4) : vB (o5 a) = a := by
  have e : (o5 a).data.toList = 114 :: Lib.itoa a := by
    unfold o5
    rw [ByteArray.data_append, Array.toList_append]; rfl
  have hz : 0 < (o5 a).size := by
    have : (o5 a).data.toList.length = (o5 a).size := rfl
    rw [e] at this; simp at this; omega
  have hb : pB (o5 a) 0 = 114 := by unfold pB; rw [e]; rfl
  have hx : (o5 a).extract 1 (o5 a).size = s1 a := by
    apply ByteArray.ext
    apply Array.ext'
    rw [Lib.extract_to_end, e]; rfl
  unfold vB nuX0
  rw [if_pos ⟨hz, hb⟩, hx, cG omG omG]
def iB (w : ByteArray) : Nat → Int
  | 0 => 0
  | k + 1 => if xB ((k : Int) + 1) = w then (k : Int) + 1 else iB w k
theorem wk_fact {k : Int} (h0 : 1 ≤ k) (h1 : k ≤ 6) : iB (xB k) 6 = k := by
  have : k = 1 ∨ k = 2 ∨ k = 3 ∨ k = 4 ∨ k = 5 ∨ k = 6 := by omega
  rcases this with rfl | rfl | rfl | rfl | rfl | rfl <;> decide
abbrev sAt (l : List ByteArray) (j : Nat) : ByteArray := l.getD j K.strs.dflt
noncomputable def vE (l : List ByteArray) : V.Fact :=
  ⟨iB (sAt l 1) 6, s6 (sAt l 0), if iB (sAt l 1) 6 = 1 ∨ iB (sAt l 1) 6 = 3 then 0 else s6 (sAt l 2), if l.length = 4 then s6 (sAt l 3) else if iB (sAt l 1) 6 = 1 ∨ iB (sAt l 1) 6 = 3 then s6 (sAt l 2) else 0⟩
noncomputable def uE (l : List ByteArray) : V.Fact :=
  if l.length = 4 then ⟨iB (sAt l 1) 6, vB (sAt l 0), vB (sAt l 2), vB (sAt l 3)⟩
  else if iB (sAt l 1) 6 = 1 ∨ iB (sAt l 1) 6 = 3 then ⟨iB (sAt l 1) 6, vB (sAt l 0), 0, vB (sAt l 2)⟩
  else ⟨iB (sAt l 1) 6, vB (sAt l 0), vB (sAt l 2), 0⟩
structure TextF (p : V.Prog) (f : V.Fact) (s : ByteArray) : Prop where
  ok : (p4 p && bB p.w f) = true
  eq : fmtS p f = s
structure TextR (f : V.Fact) (l : List ByteArray) : Prop where
  rI : vE l = f
  rS : uE l = f
  n3 : 3 ≤ l.length
  n4 : l.length ≤ 4
theorem xR {s : ByteArray} {l : List ByteArray} (h : d6 32 s.data.toList = l.map (·.data.toList)) (hl : ∀ x ∈ l, x.data.toList ≠ []) : o4 32 s = l ∧ aI s = l := by
  have e : (l.map (·.data.toList)).map r0 = l := by rw [List.map_map]; exact List.map_id l
  refine ⟨by unfold o4; rw [h, e], ?_⟩
  unfold aI
  rw [h, List.filter_eq_self.2 (fun x hx => ?_), e]
  obtain ⟨y, hy, rfl⟩ := List.mem_map.1 hx
  cases e2 : y.data.toList with
  | nil => exact absurd e2 (hl y hy)
  | cons a b => rfl
theorem regP_of {w : Int} {f : V.Fact} (h : bB w f = true) : (0 ≤ f.a ∧ f.a < 4) ∧ regP f.a = true := by
  have hr : regP f.a = true := by
    cases e : regP f.a with
    | true => rfl
    | false => unfold bB at h; rw [if_pos e] at h; cases h
  refine ⟨?_, hr⟩
  simp [regP, inP] at hr
  omega
theorem oS {p : V.Prog} {f : V.Fact} {s : ByteArray} (h : TextF p f s) : ∃ l, o4 32 s = l ∧ aI s = l ∧ TextR f l := by
  obtain ⟨ok, eq⟩ := h
  have hr := fcb_r ok
  have hf : bB p.w f = true := (Bool.and_eq_true _ _ ▸ ok).2
  rw [fmt_y ok] at eq
  subst eq
  obtain ⟨k, a, b, n⟩ := f
  have ha := hr.a
  have hb := hr.b
  have hn := hr.n
  have hk := hr.k
  simp only at ha hb hn hk
  have hra := regP_of hf
  simp only at hra
  have hkk : k = 1 ∨ k = 2 ∨ k = 3 ∨ k = 4 ∨ k = 5 ∨ k = 6 := by omega
  have key3 : ∀ (z : ByteArray), nb z → z.data.toList ≠ [] → pC ⟨k, a, b, n⟩ = xG ⟨k, a, b, n⟩ ++ z → TextR ⟨k, a, b, n⟩ [o5 a, xB k, z] → ∃ l, o4 32 (pC ⟨k, a, b, n⟩) = l ∧ aI (pC ⟨k, a, b, n⟩) = l ∧ TextR ⟨k, a, b, n⟩ l := by
    intro z hz hz0 e ht
    have h3 := spl_3 (zC a) (dW k) hz
    have := xR (s := pC ⟨k, a, b, n⟩) (l := [o5 a, xB k, z]) (by rw [e]; exact h3) (by
      intro x hx
      simp at hx
      rcases hx with rfl | rfl | rfl
      · exact lI a
      · exact pZ k
      · exact hz0)
    exact ⟨_, this.1, this.2, ht⟩
  have key4 : ∀ (z t : ByteArray), nb z → z.data.toList ≠ [] → nb t → t.data.toList ≠ [] → pC ⟨k, a, b, n⟩ = ((xG ⟨k, a, b, n⟩ ++ z) ++ sp1) ++ t → TextR ⟨k, a, b, n⟩ [o5 a, xB k, z, t] → ∃ l, o4 32 (pC ⟨k, a, b, n⟩) = l ∧ aI (pC ⟨k, a, b, n⟩) = l ∧ TextR ⟨k, a, b, n⟩ l := by
    intro z t hz hz0 ht0 ht1 e ht
    have h3 := spl_4 (zC a) (dW k) hz ht0
    have := xR (s := pC ⟨k, a, b, n⟩) (l := [o5 a, xB k, z, t]) (by rw [e]; exact h3) (by
      intro x hx
      simp at hx
      rcases hx with rfl | rfl | rfl | rfl
      · exact lI a
      · exact pZ k
      · exact hz0
      · exact ht1)
    exact ⟨_, this.1, this.2, ht⟩
  have hw := wk_fact hk.1 hk.2
  rcases hkk with rfl | rfl | rfl | rfl | rfl | rfl
  · have hb0 : b = 0 := by simp [bB, hra.2] at hf; omega
    refine key3 (s1 n) (tD n) (eF n) rfl ⟨?_, ?_, by simp, by simp⟩
    · simp only [vE, sAt, List.getD_cons_succ, List.getD_cons_zero, hw]
      rw [bA ha.1 ha.2, rD hn.1 hn.2, hb0]; rfl
    · simp only [uE, sAt, List.getD_cons_succ, List.getD_cons_zero, hw]
      rw [wC ha.1 ha.2, wI hn.1 hn.2, hb0]; rfl
  · have hb0 : 0 ≤ b ∧ b < 4 ∧ n = 0 := by simp [bB, regP, inP] at hf; omega
    refine key3 (o5 b) (zC b) (lI b) rfl ⟨?_, ?_, by simp, by simp⟩
    · simp only [vE, sAt, List.getD_cons_succ, List.getD_cons_zero, hw]
      rw [bA ha.1 ha.2, bA hb0.1 hb0.2.1, hb0.2.2]; rfl
    · simp only [uE, sAt, List.getD_cons_succ, List.getD_cons_zero, hw]
      rw [wC ha.1 ha.2, wC hb0.1 hb0.2.1, hb0.2.2]; rfl
  · have hb0 : b = 0 := by simp [bB, hra.2] at hf; omega
    refine key3 (s1 n) (tD n) (eF n) rfl ⟨?_, ?_, by simp, by simp⟩
    · simp only [vE, sAt, List.getD_cons_succ, List.getD_cons_zero, hw]
      rw [bA ha.1 ha.2, rD hn.1 hn.2, hb0]; rfl
    · simp only [uE, sAt, List.getD_cons_succ, List.getD_cons_zero, hw]
      rw [wC ha.1 ha.2, wI hn.1 hn.2, hb0]; rfl
  · refine key4 (s1 b) (s1 n) (tD b) (eF b) (tD n) (eF n) rfl ⟨?_, ?_, by simp, by simp⟩
    · simp only [vE, sAt, List.getD_cons_succ, List.getD_cons_zero, hw]
      rw [bA ha.1 ha.2, rD hb.1 omG, rD hn.1 hn.2]; rfl
    · simp only [uE, sAt, List.getD_cons_succ, List.getD_cons_zero, hw]
      rw [wC ha.1 ha.2, wI hb.1 omG, wI hn.1 hn.2]; rfl
  · have hb0 : 0 ≤ b ∧ b < 4 := by simp [bB, regP, inP] at hf; omega
    refine key4 (o5 b) (s1 n) (zC b) (lI b) (tD n) (eF n) rfl ⟨?_, ?_, by simp, by simp⟩
    · simp only [vE, sAt, List.getD_cons_succ, List.getD_cons_zero, hw]
      rw [bA ha.1 ha.2, bA hb0.1 hb0.2, rD hn.1 hn.2]; rfl
    · simp only [uE, sAt, List.getD_cons_succ, List.getD_cons_zero, hw]
      rw [wC ha.1 ha.2, wC hb0.1 hb0.2, wI hn.1 hn.2]; rfl
  · have hb0 : 0 ≤ b ∧ b < 4 ∧ n = 0 := by simp [bB, regP, inP] at hf; omega
    refine key3 (o5 b) (zC b) (lI b) rfl ⟨?_, ?_, by simp, by simp⟩
    · simp only [vE, sAt, List.getD_cons_succ, List.getD_cons_zero, hw]
      rw [bA ha.1 ha.2, bA hb0.1 hb0.2.1, hb0.2.2]; rfl
    · simp only [uE, sAt, List.getD_cons_succ, List.getD_cons_zero, hw]
      rw [wC ha.1 ha.2, wC hb0.1 hb0.2.1, hb0.2.2]; rfl
theorem TextF.uniq {p : V.Prog} {s : ByteArray} {f g : V.Fact} (h : TextF p f s) (k : TextF p g s) : f = g := by
  obtain ⟨l, e, _, r⟩ := oS h
  obtain ⟨l', e', _, r'⟩ := oS k
  rw [e] at e'
  subst e'
  exact r.rI.symm.trans r'.rI
end Vg
