/- Facts are read from their texts: the plain law. No condition. -/
import Derived.Test.YtndmanmhalpjgaaGreatDoorParW
import Derived.Test.YtndmanmhalpjgaaGreatDoorLawFF
namespace Vg
open Go Go.Proofs
def nb (x : ByteArray) : Prop := 32 ∉ x.data.toList
theorem nb_app {x y : ByteArray} (h : nb x) (k : nb y) : nb (x ++ y) := by
  unfold nb at *
  rw [ByteArray.data_append, Array.toList_append, List.mem_append]
  exact fun e => e.elim h k
theorem tR (u : Nat) : 32 ∉ Lib.decDigits u := fun h => by
  have := iO u 32 h
  have e : (32 : UInt8).toNat = 32 := rfl
  omega
theorem jF (n : Int) : nb (p5 n) := by
  unfold nb p5 Lib.itoa
  split
  · intro h
    have h' : (32 : UInt8) ∈ 45 :: Lib.decDigits n.natAbs := h
    rcases List.mem_cons.1 h' with e | e
    · cases e
    · exact tR _ e
  · exact tR _
theorem hH (n : Int) : nb (i6 n) := nb_app (by unfold nb; decide) (jF n)
theorem sR (k : Int) : nb (i8 k) := by
  unfold nb i8
  repeat' split
  all_goals decide
theorem qH (n : Int) : (p5 n).data.toList ≠ [] := by
  unfold p5 Lib.itoa
  split
  · exact fun h => by cases (show (45 :: Lib.decDigits n.natAbs : List UInt8) = [] from h)
  · exact zK _
theorem wG (n : Int) : (i6 n).data.toList ≠ [] := by
  unfold i6
  rw [ByteArray.data_append, Array.toList_append]
  simp
theorem eU (k : Int) : (i8 k).data.toList ≠ [] := by
  unfold i8
  repeat' split
  all_goals decide
theorem pU : sp1.data.toList = [32] := rfl
theorem spl_3 {x y z : ByteArray} (hx : nb x) (hy : nb y) (hz : nb z) : k8 32 ((((x ++ sp1) ++ y) ++ sp1) ++ z).data.toList = [x.data.toList, y.data.toList, z.data.toList] := by
  simp only [ByteArray.data_append, Array.toList_append, pU, List.append_assoc, List.cons_append, List.nil_append]
  rw [xD _ hx, xD _ hy, dJ hz]
theorem spl_4 {x y z t : ByteArray} (hx : nb x) (hy : nb y) (hz : nb z) (ht : nb t) : k8 32 ((((((x ++ sp1) ++ y) ++ sp1) ++ z) ++ sp1) ++ t).data.toList = [x.data.toList, y.data.toList, z.data.toList, t.data.toList] := by
  simp only [ByteArray.data_append, Array.toList_append, pU, List.append_assoc, List.cons_append, List.nil_append]
  rw [xD _ hx, xD _ hy, xD _ hz, dJ ht]
/-! ### tokens -/
theorem reg_at {a : Int} (h0 : 0 ≤ a) (h1 : a < 4) : i6 a = ⟨#[114, UInt8.ofNat (48 + a.toNat)]⟩ := by
  unfold i6 p5 Lib.itoa
  rw [if_neg omG, Lib.decDigits_one omG]
  apply ByteArray.ext
  rw [ByteArray.data_append]; rfl
theorem cX {a : Int} (h0 : 0 ≤ a) (h1 : a < 4) : lA (i6 a) = (a, true) := by
  rw [reg_at h0 h1]
  have : a = 0 ∨ a = 1 ∨ a = 2 ∨ a = 3 := by omega
  rcases this with rfl | rfl | rfl | rfl <;> decide
theorem pC {a : Int} (h0 : 0 ≤ a) (h1 : a < 4) : y7 (i6 a) = a := by
  unfold y7
  rw [cX h0 h1]; rfl
theorem vS {n : Int} (h0 : 0 ≤ n) : iB (p5 n) 0 ≠ 114 := by
  unfold iB p5 Lib.itoa
  rw [if_neg omG]
  show (((Lib.decDigits n.toNat).getD 0 0).toNat : Int) ≠ 114
  cases e : Lib.decDigits n.toNat with
  | nil => exact absurd e (zK _)
  | cons c r =>
    have := iO n.toNat c (by rw [e]; simp)
    show ((c.toNat : Nat) : Int) ≠ 114
    omega
theorem eH {n : Int} (h0 : 0 ≤ n) (h1 : n < 256) : y7 (p5 n) = n := by
  have : lA (p5 n) = (0, false) := if_neg (fun k => vS h0 k.2.1)
  unfold y7
  rw [this, tM omG omG]; rfl
theorem fH {n : Int} (h0 : 0 ≤ n) (h1 : n < 256) : qB (p5 n) = n := by
  unfold qB nuX0
  rw [if_neg (fun k => vS h0 k.2), tM omG omG]
theorem rC {a : Int} (h0 : 0 ≤ a) (h1 : a < 4) : qB (i6 a) = a := by
  have e : (i6 a).data.toList = 114 :: Lib.itoa a := by
    unfold i6
    rw [ByteArray.data_append, Array.toList_append]; rfl
  have hz : 0 < (i6 a).size := by
    have : (i6 a).data.toList.length = (i6 a).size := rfl
    rw [e] at this; simp at this; omega
  have hb : iB (i6 a) 0 = 114 := by unfold iB; rw [e]; rfl
  have hx : (i6 a).extract 1 (i6 a).size = p5 a := by
    apply ByteArray.ext
    apply Array.ext'
    rw [Lib.extract_to_end, e]; rfl
  unfold qB nuX0
  rw [if_pos ⟨hz, hb⟩, hx, tM omG omG]
def s6 (w : ByteArray) : Nat → Int
  | 0 => 0
  | k + 1 => if i8 ((k : Int) + 1) = w then (k : Int) + 1 else s6 w k
theorem wk_fact {k : Int} (h0 : 1 ≤ k) (h1 : k ≤ 6) : s6 (i8 k) 6 = k := by
  have : k = 1 ∨ k = 2 ∨ k = 3 ∨ k = 4 ∨ k = 5 ∨ k = 6 := by omega
  rcases this with rfl | rfl | rfl | rfl | rfl | rfl <;> decide
abbrev sAt (l : List ByteArray) (j : Nat) : ByteArray := l.getD j K.strs.dflt
noncomputable def o8 (l : List ByteArray) : V.Fact :=
  ⟨s6 (sAt l 1) 6, y7 (sAt l 0), if s6 (sAt l 1) 6 = 1 ∨ s6 (sAt l 1) 6 = 3 then 0 else y7 (sAt l 2), if l.length = 4 then y7 (sAt l 3) else if s6 (sAt l 1) 6 = 1 ∨ s6 (sAt l 1) 6 = 3 then y7 (sAt l 2) else 0⟩
noncomputable def zD (l : List ByteArray) : V.Fact :=
  if l.length = 4 then ⟨s6 (sAt l 1) 6, qB (sAt l 0), qB (sAt l 2), qB (sAt l 3)⟩
  else if s6 (sAt l 1) 6 = 1 ∨ s6 (sAt l 1) 6 = 3 then ⟨s6 (sAt l 1) 6, qB (sAt l 0), 0, qB (sAt l 2)⟩
  else ⟨s6 (sAt l 1) 6, qB (sAt l 0), qB (sAt l 2), 0⟩
structure TextF (p : V.Prog) (f : V.Fact) (s : ByteArray) : Prop where
  ok : (progP p && factP p.w f) = true
  eq : b8 p f = s
structure TextR (f : V.Fact) (l : List ByteArray) : Prop where
  rI : o8 l = f
  rS : zD l = f
  n3 : 3 ≤ l.length
  n4 : l.length ≤ 4
theorem kP {s : ByteArray} {l : List ByteArray} (h : k8 32 s.data.toList = l.map (·.data.toList)) (hl : ∀ x ∈ l, x.data.toList ≠ []) : s7 32 s = l ∧ mG s = l := by
  have e : (l.map (·.data.toList)).map mkB = l := by rw [List.map_map]; exact List.map_id l
  refine ⟨by unfold s7; rw [h, e], ?_⟩
  unfold mG
  rw [h, List.filter_eq_self.2 (fun x hx => ?_), e]
  obtain ⟨y, hy, rfl⟩ := List.mem_map.1 hx
  cases e2 : y.data.toList with
  | nil => exact absurd e2 (hl y hy)
  | cons a b => rfl
theorem regP_of {w : Int} {f : V.Fact} (h : factP w f = true) : (0 ≤ f.a ∧ f.a < 4) ∧ regP f.a = true := by
  have hr : regP f.a = true := by
    cases e : regP f.a with
    | true => rfl
    | false => unfold factP at h; rw [if_pos e] at h; cases h
  refine ⟨?_, hr⟩
  simp [regP, inP] at hr
  omega
theorem pG {p : V.Prog} {f : V.Fact} {s : ByteArray} (h : TextF p f s) : ∃ l, s7 32 s = l ∧ mG s = l ∧ TextR f l := by
  obtain ⟨ok, eq⟩ := h
  have hr := fO ok
  have hf : factP p.w f = true := (Bool.and_eq_true _ _ ▸ ok).2
  rw [iE ok] at eq
  subst eq
  obtain ⟨k, a, b, n⟩ := f
  have ha := hr.a
  have hb := hr.b
  have hn := hr.n
  have hk := hr.k
  simp only at ha hb hn hk
  have hra := regP_of hf
  simp only at hra
  have hkk : k = 1 ∨ k = 2 ∨ k = 3 ∨ k = 4 ∨ k = 5 ∨ k = 6 := by omega
  have key3 : ∀ (z : ByteArray), nb z → z.data.toList ≠ [] → gB ⟨k, a, b, n⟩ = qA ⟨k, a, b, n⟩ ++ z → TextR ⟨k, a, b, n⟩ [i6 a, i8 k, z] → ∃ l, s7 32 (gB ⟨k, a, b, n⟩) = l ∧ mG (gB ⟨k, a, b, n⟩) = l ∧ TextR ⟨k, a, b, n⟩ l := by
    intro z hz hz0 e ht
    have h3 := spl_3 (hH a) (sR k) hz
    have := kP (s := gB ⟨k, a, b, n⟩) (l := [i6 a, i8 k, z]) (by rw [e]; exact h3) (by
      intro x hx
      simp at hx
      rcases hx with rfl | rfl | rfl
      · exact wG a
      · exact eU k
      · exact hz0)
    exact ⟨_, this.1, this.2, ht⟩
  have key4 : ∀ (z t : ByteArray), nb z → z.data.toList ≠ [] → nb t → t.data.toList ≠ [] → gB ⟨k, a, b, n⟩ = ((qA ⟨k, a, b, n⟩ ++ z) ++ sp1) ++ t → TextR ⟨k, a, b, n⟩ [i6 a, i8 k, z, t] → ∃ l, s7 32 (gB ⟨k, a, b, n⟩) = l ∧ mG (gB ⟨k, a, b, n⟩) = l ∧ TextR ⟨k, a, b, n⟩ l := by
    intro z t hz hz0 ht0 ht1 e ht
    have h3 := spl_4 (hH a) (sR k) hz ht0
    have := kP (s := gB ⟨k, a, b, n⟩) (l := [i6 a, i8 k, z, t]) (by rw [e]; exact h3) (by
      intro x hx
      simp at hx
      rcases hx with rfl | rfl | rfl | rfl
      · exact wG a
      · exact eU k
      · exact hz0
      · exact ht1)
    exact ⟨_, this.1, this.2, ht⟩
  have hw := wk_fact hk.1 hk.2
  rcases hkk with rfl | rfl | rfl | rfl | rfl | rfl
  · have hb0 : b = 0 := by simp [factP, hra.2] at hf; omega
    refine key3 (p5 n) (jF n) (qH n) rfl ⟨?_, ?_, by simp, by simp⟩
    · simp only [o8, sAt, List.getD_cons_succ, List.getD_cons_zero, hw]
      rw [pC ha.1 ha.2, eH hn.1 hn.2, hb0]; rfl
    · simp only [zD, sAt, List.getD_cons_succ, List.getD_cons_zero, hw]
      rw [rC ha.1 ha.2, fH hn.1 hn.2, hb0]; rfl
  · have hb0 : 0 ≤ b ∧ b < 4 ∧ n = 0 := by simp [factP, regP, inP] at hf; omega
    refine key3 (i6 b) (hH b) (wG b) rfl ⟨?_, ?_, by simp, by simp⟩
    · simp only [o8, sAt, List.getD_cons_succ, List.getD_cons_zero, hw]
      rw [pC ha.1 ha.2, pC hb0.1 hb0.2.1, hb0.2.2]; rfl
    · simp only [zD, sAt, List.getD_cons_succ, List.getD_cons_zero, hw]
      rw [rC ha.1 ha.2, rC hb0.1 hb0.2.1, hb0.2.2]; rfl
  · have hb0 : b = 0 := by simp [factP, hra.2] at hf; omega
    refine key3 (p5 n) (jF n) (qH n) rfl ⟨?_, ?_, by simp, by simp⟩
    · simp only [o8, sAt, List.getD_cons_succ, List.getD_cons_zero, hw]
      rw [pC ha.1 ha.2, eH hn.1 hn.2, hb0]; rfl
    · simp only [zD, sAt, List.getD_cons_succ, List.getD_cons_zero, hw]
      rw [rC ha.1 ha.2, fH hn.1 hn.2, hb0]; rfl
  · refine key4 (p5 b) (p5 n) (jF b) (qH b) (jF n) (qH n) rfl ⟨?_, ?_, by simp, by simp⟩
    · simp only [o8, sAt, List.getD_cons_succ, List.getD_cons_zero, hw]
      rw [pC ha.1 ha.2, eH hb.1 omG, eH hn.1 hn.2]; rfl
    · simp only [zD, sAt, List.getD_cons_succ, List.getD_cons_zero, hw]
      rw [rC ha.1 ha.2, fH hb.1 omG, fH hn.1 hn.2]; rfl
  · have hb0 : 0 ≤ b ∧ b < 4 := by simp [factP, regP, inP] at hf; omega
    refine key4 (i6 b) (p5 n) (hH b) (wG b) (jF n) (qH n) rfl ⟨?_, ?_, by simp, by simp⟩
    · simp only [o8, sAt, List.getD_cons_succ, List.getD_cons_zero, hw]
      rw [pC ha.1 ha.2, pC hb0.1 hb0.2, eH hn.1 hn.2]; rfl
    · simp only [zD, sAt, List.getD_cons_succ, List.getD_cons_zero, hw]
      rw [rC ha.1 ha.2, rC hb0.1 hb0.2, fH hn.1 hn.2]; rfl
  · have hb0 : 0 ≤ b ∧ b < 4 ∧ n = 0 := by simp [factP, regP, inP] at hf; omega
    refine key3 (i6 b) (hH b) (wG b) rfl ⟨?_, ?_, by simp, by simp⟩
    · simp only [o8, sAt, List.getD_cons_succ, List.getD_cons_zero, hw]
      rw [pC ha.1 ha.2, pC hb0.1 hb0.2.1, hb0.2.2]; rfl
    · simp only [zD, sAt, List.getD_cons_succ, List.getD_cons_zero, hw]
      rw [rC ha.1 ha.2, rC hb0.1 hb0.2.1, hb0.2.2]; rfl
theorem TextF.uniq {p : V.Prog} {s : ByteArray} {f g : V.Fact} (h : TextF p f s) (k : TextF p g s) : f = g := by
  obtain ⟨l, e, _, r⟩ := pG h
  obtain ⟨l', e', _, r'⟩ := pG k
  rw [e] at e'
  subst e'
  exact r.rI.symm.trans r'.rI
open Classical in
noncomputable def x8 (p : V.Prog) (s : ByteArray) : V.Fact × Bool := if h : ∃ f, TextF p f s then (h.choose, true) else (⟨0, 0, 0, 0⟩, false)
theorem yQ {p : V.Prog} {s : ByteArray} {f : V.Fact} (h : TextF p f s) : x8 p s = (f, true) := by
  have hx : ∃ f, TextF p f s := ⟨f, h⟩
  unfold x8
  rw [dif_pos hx, hx.choose_spec.uniq h]
theorem oM {p : V.Prog} {s : ByteArray} (h : ∀ f, ¬ TextF p f s) : x8 p s = (⟨0, 0, 0, 0⟩, false) := by
  unfold x8
  rw [dif_neg (fun ⟨n, hn⟩ => h n hn)]
end Vg
