/- Facts are read from their texts: the plain law. No condition. -/
import Derived.Test.YtlopkgjiccppfaaDoorParW
import Derived.Test.YtlopkgjiccppfaaDoorLawFF
namespace Vg
open Go Go.Proofs
def nb (x : ByteArray) : Prop := 32 ∉ x.data.toList
theorem nb_app {x y : ByteArray} (h : nb x) (k : nb y) : nb (x ++ y) := by
  unfold nb at *
  rw [ByteArray.data_append, Array.toList_append, List.mem_append]
  exact fun e => e.elim h k
theorem nb_dig (u : Nat) : 32 ∉ Lib.decDigits u := fun h => by
  have := dig_all u 32 h
  have e : (32 : UInt8).toNat = 32 := rfl
  omega
theorem nb_itoa (n : Int) : nb (itoaS n) := by
  unfold nb itoaS Lib.itoa
  split
  · intro h
    have h' : (32 : UInt8) ∈ 45 :: Lib.decDigits n.natAbs := h
    rcases List.mem_cons.1 h' with e | e
    · cases e
    · exact nb_dig _ e
  · exact nb_dig _
theorem nb_reg (n : Int) : nb (regS n) := nb_app (by unfold nb; decide) (nb_itoa n)
theorem nb_factW (k : Int) : nb (factW k) := by
  unfold nb factW
  repeat' split
  all_goals decide
theorem itoa_ne (n : Int) : (itoaS n).data.toList ≠ [] := by
  unfold itoaS Lib.itoa
  split
  · exact fun h => by cases (show (45 :: Lib.decDigits n.natAbs : List UInt8) = [] from h)
  · exact dig_ne _
theorem reg_ne (n : Int) : (regS n).data.toList ≠ [] := by
  unfold regS
  rw [ByteArray.data_append, Array.toList_append]
  simp
theorem factW_ne (k : Int) : (factW k).data.toList ≠ [] := by
  unfold factW
  repeat' split
  all_goals decide
theorem dat_sp : sp1.data.toList = [32] := rfl
theorem spl_3 {x y z : ByteArray} (hx : nb x) (hy : nb y) (hz : nb z) : splitL 32 ((((x ++ sp1) ++ y) ++ sp1) ++ z).data.toList = [x.data.toList, y.data.toList, z.data.toList] := by
  simp only [ByteArray.data_append, Array.toList_append, dat_sp, List.append_assoc, List.cons_append, List.nil_append]
  rw [splitL_app _ hx, splitL_app _ hy, splitL_none hz]
theorem spl_4 {x y z t : ByteArray} (hx : nb x) (hy : nb y) (hz : nb z) (ht : nb t) : splitL 32 ((((((x ++ sp1) ++ y) ++ sp1) ++ z) ++ sp1) ++ t).data.toList = [x.data.toList, y.data.toList, z.data.toList, t.data.toList] := by
  simp only [ByteArray.data_append, Array.toList_append, dat_sp, List.append_assoc, List.cons_append, List.nil_append]
  rw [splitL_app _ hx, splitL_app _ hy, splitL_app _ hz, splitL_none ht]
/-! ### tokens -/
theorem reg_at {a : Int} (h0 : 0 ≤ a) (h1 : a < 4) : regS a = ⟨#[114, UInt8.ofNat (48 + a.toNat)]⟩ := by
  unfold regS itoaS Lib.itoa
  rw [if_neg (by omega), Lib.decDigits_one (by omega)]
  apply ByteArray.ext
  rw [ByteArray.data_append]; rfl
theorem regX_reg {a : Int} (h0 : 0 ≤ a) (h1 : a < 4) : regX (regS a) = (a, true) := by
  rw [reg_at h0 h1]
  have : a = 0 ∨ a = 1 ∨ a = 2 ∨ a = 3 := by omega
  rcases this with rfl | rfl | rfl | rfl <;> decide
theorem opI_reg {a : Int} (h0 : 0 ≤ a) (h1 : a < 4) : opI (regS a) = a := by
  unfold opI
  rw [regX_reg h0 h1]; rfl
theorem itoa_hd {n : Int} (h0 : 0 ≤ n) : bAt (itoaS n) 0 ≠ 114 := by
  unfold bAt itoaS Lib.itoa
  rw [if_neg (by omega)]
  show (((Lib.decDigits n.toNat).getD 0 0).toNat : Int) ≠ 114
  cases e : Lib.decDigits n.toNat with
  | nil => exact absurd e (dig_ne _)
  | cons c r =>
    have := dig_all n.toNat c (by rw [e]; simp)
    show ((c.toNat : Nat) : Int) ≠ 114
    omega
theorem opI_itoa {n : Int} (h0 : 0 ≤ n) (h1 : n < 256) : opI (itoaS n) = n := by
  have : regX (itoaS n) = (0, false) := if_neg (fun k => itoa_hd h0 k.2.1)
  unfold opI
  rw [this, parseI_itoa (by omega) (by omega)]; rfl
theorem numX_itoa {n : Int} (h0 : 0 ≤ n) (h1 : n < 256) : numX (itoaS n) = n := by
  unfold numX numX0
  rw [if_neg (fun k => itoa_hd h0 k.2), parseI_itoa (by omega) (by omega)]
theorem numX_reg {a : Int} (h0 : 0 ≤ a) (h1 : a < 4) : numX (regS a) = a := by
  have e : (regS a).data.toList = 114 :: Lib.itoa a := by
    unfold regS
    rw [ByteArray.data_append, Array.toList_append]; rfl
  have hz : 0 < (regS a).size := by
    have : (regS a).data.toList.length = (regS a).size := rfl
    rw [e] at this; simp at this; omega
  have hb : bAt (regS a) 0 = 114 := by unfold bAt; rw [e]; rfl
  have hx : (regS a).extract 1 (regS a).size = itoaS a := by
    apply ByteArray.ext
    apply Array.ext'
    rw [Lib.extract_to_end, e]; rfl
  unfold numX numX0
  rw [if_pos ⟨hz, hb⟩, hx, parseI_itoa (by omega) (by omega)]
/-- the last kind below k + 1 whose word w is -/
def wkTo (w : ByteArray) : Nat → Int
  | 0 => 0
  | k + 1 => if factW ((k : Int) + 1) = w then (k : Int) + 1 else wkTo w k
theorem wk_fact {k : Int} (h0 : 1 ≤ k) (h1 : k ≤ 6) : wkTo (factW k) 6 = k := by
  have : k = 1 ∨ k = 2 ∨ k = 3 ∨ k = 4 ∨ k = 5 ∨ k = 6 := by omega
  rcases this with rfl | rfl | rfl | rfl | rfl | rfl <;> decide
theorem wk_lt (w : ByteArray) : ∀ k, 0 ≤ wkTo w k ∧ wkTo w k ≤ k
  | 0 => ⟨Int.le_refl _, Int.le_refl _⟩
  | k + 1 => by
    have := wk_lt w k
    rw [wkTo]
    split <;> omega
abbrev sAt (l : List ByteArray) (j : Nat) : ByteArray := l.getD j K.strs.dflt
/-- the fact that impl.ParseFact takes out of the pieces -/
noncomputable def rawI (l : List ByteArray) : V.Fact :=
  ⟨wkTo (sAt l 1) 6, opI (sAt l 0), if wkTo (sAt l 1) 6 = 1 ∨ wkTo (sAt l 1) 6 = 3 then 0 else opI (sAt l 2), if l.length = 4 then opI (sAt l 3) else if wkTo (sAt l 1) 6 = 1 ∨ wkTo (sAt l 1) 6 = 3 then opI (sAt l 2) else 0⟩
/-- the fact that spec.ParseFact takes out of the words -/
noncomputable def rawS (l : List ByteArray) : V.Fact :=
  if l.length = 4 then ⟨wkTo (sAt l 1) 6, numX (sAt l 0), numX (sAt l 2), numX (sAt l 3)⟩
  else if wkTo (sAt l 1) 6 = 1 ∨ wkTo (sAt l 1) 6 = 3 then ⟨wkTo (sAt l 1) 6, numX (sAt l 0), 0, numX (sAt l 2)⟩
  else ⟨wkTo (sAt l 1) 6, numX (sAt l 0), numX (sAt l 2), 0⟩
structure TextF (p : V.Prog) (f : V.Fact) (s : ByteArray) : Prop where
  ok : (progP p && factP p.w f) = true
  eq : fmtS p f = s
structure TextR (f : V.Fact) (l : List ByteArray) : Prop where
  rI : rawI l = f
  rS : rawS l = f
  n3 : 3 ≤ l.length
  n4 : l.length ≤ 4
theorem words_eq {s : ByteArray} {l : List ByteArray} (h : splitL 32 s.data.toList = l.map (·.data.toList)) (hl : ∀ x ∈ l, x.data.toList ≠ []) : splB 32 s = l ∧ wordsP s = l := by
  have e : (l.map (·.data.toList)).map mkB = l := by rw [List.map_map]; exact List.map_id l
  refine ⟨by unfold splB; rw [h, e], ?_⟩
  unfold wordsP
  rw [h, List.filter_eq_self.2 (fun x hx => ?_), e]
  obtain ⟨y, hy, rfl⟩ := List.mem_map.1 hx
  cases e2 : y.data.toList with
  | nil => exact absurd e2 (hl y hy)
  | cons a b => rfl
theorem regP_of {w : Int} {f : V.Fact} (h : factP w f = true) : (0 ≤ f.a ∧ f.a < 4) ∧ regP f.a = true := by
  have hr : regP f.a = true := by
    cases e : regP f.a with
    | true => rfl
    | false => unfold factP at h; rw [if_pos e] at h; cases h
  refine ⟨?_, hr⟩
  simp [regP, inP] at hr
  omega
theorem text_r {p : V.Prog} {f : V.Fact} {s : ByteArray} (h : TextF p f s) : ∃ l, splB 32 s = l ∧ wordsP s = l ∧ TextR f l := by
  obtain ⟨ok, eq⟩ := h
  have hr := fact_r ok
  have hf : factP p.w f = true := (Bool.and_eq_true _ _ ▸ ok).2
  rw [fmt_y ok] at eq
  subst eq
  obtain ⟨k, a, b, n⟩ := f
  have ha := hr.a
  have hb := hr.b
  have hn := hr.n
  have hk := hr.k
  simp only at ha hb hn hk
  have hra := regP_of hf
  simp only at hra
  have hkk : k = 1 ∨ k = 2 ∨ k = 3 ∨ k = 4 ∨ k = 5 ∨ k = 6 := by omega
  have key3 : ∀ (z : ByteArray), nb z → z.data.toList ≠ [] → bodyS ⟨k, a, b, n⟩ = headS ⟨k, a, b, n⟩ ++ z → TextR ⟨k, a, b, n⟩ [regS a, factW k, z] → ∃ l, splB 32 (bodyS ⟨k, a, b, n⟩) = l ∧ wordsP (bodyS ⟨k, a, b, n⟩) = l ∧ TextR ⟨k, a, b, n⟩ l := by
    intro z hz hz0 e ht
    have h3 := spl_3 (nb_reg a) (nb_factW k) hz
    have := words_eq (s := bodyS ⟨k, a, b, n⟩) (l := [regS a, factW k, z]) (by rw [e]; exact h3) (by
      intro x hx
      simp at hx
      rcases hx with rfl | rfl | rfl
      · exact reg_ne a
      · exact factW_ne k
      · exact hz0)
    exact ⟨_, this.1, this.2, ht⟩
  have key4 : ∀ (z t : ByteArray), nb z → z.data.toList ≠ [] → nb t → t.data.toList ≠ [] → bodyS ⟨k, a, b, n⟩ = ((headS ⟨k, a, b, n⟩ ++ z) ++ sp1) ++ t → TextR ⟨k, a, b, n⟩ [regS a, factW k, z, t] → ∃ l, splB 32 (bodyS ⟨k, a, b, n⟩) = l ∧ wordsP (bodyS ⟨k, a, b, n⟩) = l ∧ TextR ⟨k, a, b, n⟩ l := by
    intro z t hz hz0 ht0 ht1 e ht
    have h3 := spl_4 (nb_reg a) (nb_factW k) hz ht0
    have := words_eq (s := bodyS ⟨k, a, b, n⟩) (l := [regS a, factW k, z, t]) (by rw [e]; exact h3) (by
      intro x hx
      simp at hx
      rcases hx with rfl | rfl | rfl | rfl
      · exact reg_ne a
      · exact factW_ne k
      · exact hz0
      · exact ht1)
    exact ⟨_, this.1, this.2, ht⟩
  have hw := wk_fact hk.1 hk.2
  rcases hkk with rfl | rfl | rfl | rfl | rfl | rfl
  · have hb0 : b = 0 := by simp [factP, hra.2] at hf; omega
    refine key3 (itoaS n) (nb_itoa n) (itoa_ne n) rfl ⟨?_, ?_, by simp, by simp⟩
    · simp only [rawI, sAt, List.getD_cons_succ, List.getD_cons_zero, hw]
      rw [opI_reg ha.1 ha.2, opI_itoa hn.1 hn.2, hb0]; rfl
    · simp only [rawS, sAt, List.getD_cons_succ, List.getD_cons_zero, hw]
      rw [numX_reg ha.1 ha.2, numX_itoa hn.1 hn.2, hb0]; rfl
  · have hb0 : 0 ≤ b ∧ b < 4 ∧ n = 0 := by simp [factP, regP, inP] at hf; omega
    refine key3 (regS b) (nb_reg b) (reg_ne b) rfl ⟨?_, ?_, by simp, by simp⟩
    · simp only [rawI, sAt, List.getD_cons_succ, List.getD_cons_zero, hw]
      rw [opI_reg ha.1 ha.2, opI_reg hb0.1 hb0.2.1, hb0.2.2]; rfl
    · simp only [rawS, sAt, List.getD_cons_succ, List.getD_cons_zero, hw]
      rw [numX_reg ha.1 ha.2, numX_reg hb0.1 hb0.2.1, hb0.2.2]; rfl
  · have hb0 : b = 0 := by simp [factP, hra.2] at hf; omega
    refine key3 (itoaS n) (nb_itoa n) (itoa_ne n) rfl ⟨?_, ?_, by simp, by simp⟩
    · simp only [rawI, sAt, List.getD_cons_succ, List.getD_cons_zero, hw]
      rw [opI_reg ha.1 ha.2, opI_itoa hn.1 hn.2, hb0]; rfl
    · simp only [rawS, sAt, List.getD_cons_succ, List.getD_cons_zero, hw]
      rw [numX_reg ha.1 ha.2, numX_itoa hn.1 hn.2, hb0]; rfl
  · refine key4 (itoaS b) (itoaS n) (nb_itoa b) (itoa_ne b) (nb_itoa n) (itoa_ne n) rfl ⟨?_, ?_, by simp, by simp⟩
    · simp only [rawI, sAt, List.getD_cons_succ, List.getD_cons_zero, hw]
      rw [opI_reg ha.1 ha.2, opI_itoa hb.1 (by omega), opI_itoa hn.1 hn.2]; rfl
    · simp only [rawS, sAt, List.getD_cons_succ, List.getD_cons_zero, hw]
      rw [numX_reg ha.1 ha.2, numX_itoa hb.1 (by omega), numX_itoa hn.1 hn.2]; rfl
  · have hb0 : 0 ≤ b ∧ b < 4 := by simp [factP, regP, inP] at hf; omega
    refine key4 (regS b) (itoaS n) (nb_reg b) (reg_ne b) (nb_itoa n) (itoa_ne n) rfl ⟨?_, ?_, by simp, by simp⟩
    · simp only [rawI, sAt, List.getD_cons_succ, List.getD_cons_zero, hw]
      rw [opI_reg ha.1 ha.2, opI_reg hb0.1 hb0.2, opI_itoa hn.1 hn.2]; rfl
    · simp only [rawS, sAt, List.getD_cons_succ, List.getD_cons_zero, hw]
      rw [numX_reg ha.1 ha.2, numX_reg hb0.1 hb0.2, numX_itoa hn.1 hn.2]; rfl
  · have hb0 : 0 ≤ b ∧ b < 4 ∧ n = 0 := by simp [factP, regP, inP] at hf; omega
    refine key3 (regS b) (nb_reg b) (reg_ne b) rfl ⟨?_, ?_, by simp, by simp⟩
    · simp only [rawI, sAt, List.getD_cons_succ, List.getD_cons_zero, hw]
      rw [opI_reg ha.1 ha.2, opI_reg hb0.1 hb0.2.1, hb0.2.2]; rfl
    · simp only [rawS, sAt, List.getD_cons_succ, List.getD_cons_zero, hw]
      rw [numX_reg ha.1 ha.2, numX_reg hb0.1 hb0.2.1, hb0.2.2]; rfl
theorem TextF.uniq {p : V.Prog} {s : ByteArray} {f g : V.Fact} (h : TextF p f s) (k : TextF p g s) : f = g := by
  obtain ⟨l, e, _, r⟩ := text_r h
  obtain ⟨l', e', _, r'⟩ := text_r k
  rw [e] at e'
  subst e'
  exact r.rI.symm.trans r'.rI
open Classical in
/-- the fact that a text says, and whether it says one -/
noncomputable def readF (p : V.Prog) (s : ByteArray) : V.Fact × Bool := if h : ∃ f, TextF p f s then (h.choose, true) else (⟨0, 0, 0, 0⟩, false)
theorem readF_yes {p : V.Prog} {s : ByteArray} {f : V.Fact} (h : TextF p f s) : readF p s = (f, true) := by
  have hx : ∃ f, TextF p f s := ⟨f, h⟩
  unfold readF
  rw [dif_pos hx, hx.choose_spec.uniq h]
theorem readF_no {p : V.Prog} {s : ByteArray} (h : ∀ f, ¬ TextF p f s) : readF p s = (⟨0, 0, 0, 0⟩, false) := by
  unfold readF
  rw [dif_neg (fun ⟨n, hn⟩ => h n hn)]
end Vg
