/- Terms: what it means that one is good; the plain law of the checks. No condition. -/
import Derived.Test.YtgmpfaennbojaaaGreatBase
namespace Vg
open Go Go.Proofs
theorem V.Term.eta (x : V.Term) : (⟨x.op, x.w, x.n, x.name, x.kids⟩ : V.Term) = x := by cases x; rfl
def bytAt (s : ByteArray) (n : Nat) : Int := ((s.data.toList.getD n 0).toNat : Int)
/-! ### names -/
def chOk (i : Nat) (b : Int) : Bool := inP b 97 122 || (inP b 48 57 && decide (0 < i))
def nameTo (s : ByteArray) : Nat → Bool
  | 0 => true
  | k + 1 => nameTo s k && chOk k (bytAt s k)
def isNameP (s : ByteArray) : Bool := inP s.size 1 8 && nameTo s s.size
theorem nameTo_le {s : ByteArray} : ∀ {k m : Nat}, k ≤ m → nameTo s m = true → nameTo s k = true
  | k, 0, h, _ => by obtain rfl : k = 0 := by omega
                     rfl
  | k, m + 1, h, hm => by
    by_cases e : k = m + 1
    · subst e; exact hm
    · simp only [nameTo, Bool.and_eq_true] at hm
      exact nameTo_le (by omega) hm.1
/-! ### a node and its kids -/
abbrev kAt (ks : List V.Term) (i : Nat) : V.Term := ks.getD i K.terms.dflt
def kidN (op : Int) : Int :=
  if op = 0 ∨ op = 22 then 0 else if op = 1 ∨ op = 2 ∨ op = 19 ∨ op = 20 ∨ op = 21 then 1 else if (3 ≤ op ∧ op ≤ 16) ∨ op = 18 then 2 else if op = 17 then 3 else -1
def fitP (op w n : Int) (ks : List V.Term) : Bool :=
  if op = 0 ∨ op = 22 then true
  else if op = 1 ∨ op = 2 then decide ((kAt ks 0).w = w)
  else if 3 ≤ op ∧ op ≤ 13 then decide ((kAt ks 0).w = w) && decide ((kAt ks 1).w = w)
  else if 14 ≤ op ∧ op ≤ 16 then decide ((kAt ks 0).w = (kAt ks 1).w) && decide (w = 1)
  else if op = 17 then decide ((kAt ks 0).w = 1) && decide ((kAt ks 1).w = w) && decide ((kAt ks 2).w = w)
  else if op = 18 then decide ((kAt ks 0).w + (kAt ks 1).w = w)
  else if op = 19 then decide (0 ≤ n) && decide (n ≤ (kAt ks 0).w - w)
  else decide ((kAt ks 0).w ≤ w)
structure NodeOk (op w n : Int) (nm : ByteArray) (ks : List V.Term) : Prop where
  width : inP w 1 16 = true
  len : (ks.length : Int) = kidN op
  kw : ks.all (fun k => inP k.w 1 16) = true
  fit : fitP op w n ks = true
  const : op = 0 → wordP w n = true
  num : op ≠ 0 → op ≠ 19 → n = 0
  nam : op ≠ 22 → nm = ByteArray.empty
open Classical in
noncomputable def nodeB (op w n : Int) (nm : ByteArray) (ks : List V.Term) : Bool := decide (NodeOk op w n nm ks)
mutual
def sizeT : V.Term → Nat
  | ⟨_, _, _, _, ks⟩ => 1 + sizeTs ks
def sizeTs : List V.Term → Nat
  | [] => 0
  | t :: ts => sizeT t + sizeTs ts
end
mutual
noncomputable def okT : V.Term → Bool
  | ⟨op, w, n, nm, ks⟩ => nodeB op w n nm ks && (!decide (op = 22) || isNameP nm) && okTs ks
noncomputable def okTs : List V.Term → Bool
  | [] => true
  | t :: ts => okT t && okTs ts
end
mutual
def varsT : V.Term → List (ByteArray × Int)
  | ⟨op, w, _, nm, ks⟩ => if op = 22 then (nm, w) :: varsTs ks else varsTs ks
def varsTs : List V.Term → List (ByteArray × Int)
  | [] => []
  | t :: ts => varsT t ++ varsTs ts
end
theorem sizeT_pos : ∀ t, 1 ≤ sizeT t
  | ⟨_, _, _, _, ks⟩ => by rw [sizeT]; omega
theorem sizeTs_at : ∀ {ks : List V.Term} {i : Nat}, i < ks.length → sizeT (kAt ks i) ≤ sizeTs ks
  | t :: ts, 0, _ => by show sizeT t ≤ _; rw [sizeTs]; omega
  | t :: ts, i + 1, h => by
    have := sizeTs_at (ks := ts) (i := i) (by simpa using h)
    show sizeT (kAt ts i) ≤ _
    rw [sizeTs]; omega
theorem size_kid {op w n : Int} {nm : ByteArray} {ks : List V.Term} {i : Nat} (h : i < ks.length) : sizeT (kAt ks i) < sizeT ⟨op, w, n, nm, ks⟩ := by
  have := sizeTs_at h
  rw [sizeT]; omega
def extM (m : List (ByteArray × Int)) : List (ByteArray × Int) → Option (List (ByteArray × Int))
  | [] => some m
  | (s, w) :: l => match mget m s with
    | some x => if x = w then extM m l else none
    | none => extM (mset m s w) l
theorem extM_app : ∀ (a b m : List (ByteArray × Int)), extM m (a ++ b) = (extM m a).bind fun m => extM m b
  | [], _, _ => rfl
  | (s, w) :: a, b, m => by
    rw [List.cons_append]
    simp only [extM]
    cases mget m s with
    | none => exact extM_app a b _
    | some x =>
      simp only
      split
      · exact extM_app a b m
      · rfl
noncomputable def termP (t : V.Term) : Bool := decide (sizeT t ≤ 240) && okT t && (extM [] (varsT t)).isSome
/-! ### the program's check -/
structure TC where
  c : Int
  m : List (ByteArray × Int)
  z : Bool
def varF (s : ByteArray) (w : Int) (q : TC) : Bool × TC :=
  if isNameP s = true then match mget q.m s with
    | some x => (decide (x = w), ⟨q.c, q.m, false⟩)
    | none => (true, ⟨q.c, mset q.m s w, false⟩)
  else (false, q)
mutual
noncomputable def nodeF : V.Term → TC → Bool × TC
  | ⟨op, w, n, nm, ks⟩, q => if q.c + 1 ≤ 240 ∧ nodeB op w n nm ks = true then
      if op = 22 then if (varF nm w ⟨q.c + 1, q.m, q.z⟩).1 = true then kidsF ks (varF nm w ⟨q.c + 1, q.m, q.z⟩).2 else (false, (varF nm w ⟨q.c + 1, q.m, q.z⟩).2)
      else kidsF ks ⟨q.c + 1, q.m, q.z⟩
    else (false, ⟨q.c + 1, q.m, q.z⟩)
noncomputable def kidsF : List V.Term → TC → Bool × TC
  | [], q => (true, q)
  | k :: ks, q => if (nodeF k q).1 = true then kidsF ks (nodeF k q).2 else (false, (nodeF k q).2)
end
theorem varF_c (s : ByteArray) (w : Int) (q : TC) : (varF s w q).2.c = q.c := by
  unfold varF
  split
  · split <;> rfl
  · rfl
theorem varF_z {s : ByteArray} {w : Int} {q : TC} (h : q.z = true → q.m = []) : (varF s w q).2.z = true → (varF s w q).2.m = [] := by
  unfold varF
  split
  · split <;> (intro h; cases h)
  · exact h
mutual
theorem nodeF_z : ∀ (t : V.Term) {q : TC}, (q.z = true → q.m = []) → ((nodeF t q).2.z = true → (nodeF t q).2.m = [])
  | ⟨op, w, n, nm, ks⟩, q, h => by
    rw [nodeF]
    split
    · split
      · have hv := varF_z (s := nm) (w := w) (q := ⟨q.c + 1, q.m, q.z⟩) h
        split
        · exact kidsF_z ks hv
        · exact hv
      · exact kidsF_z ks h
    · exact h
theorem kidsF_z : ∀ (ks : List V.Term) {q : TC}, (q.z = true → q.m = []) → ((kidsF ks q).2.z = true → (kidsF ks q).2.m = [])
  | [], q, h => by rw [kidsF]; exact h
  | k :: ks, q, h => by
    rw [kidsF]
    have hk := nodeF_z k h
    split
    · exact kidsF_z ks hk
    · exact hk
end
structure ChkR (sz : Nat) (ok : Bool) (vs : List (ByteArray × Int)) (q : TC) (r : Bool × TC) : Prop where
  yes : r.1 = true → q.c + sz ≤ 240 ∧ ok = true ∧ extM q.m vs = some r.2.m ∧ r.2.c = q.c + sz
  no : q.c + sz ≤ 240 → ok = true → (extM q.m vs).isSome = true → r.1 = true
mutual
theorem nodeF_r : ∀ (t : V.Term) (q : TC), ChkR (sizeT t) (okT t) (varsT t) q (nodeF t q)
  | ⟨op, w, n, nm, ks⟩, q => by
    rw [nodeF, sizeT, okT, varsT]
    by_cases hp : q.c + 1 ≤ 240 ∧ nodeB op w n nm ks = true
    · rw [if_pos hp, hp.2]
      by_cases ho : op = 22
      · rw [if_pos ho, if_pos ho]
        have e1 : decide (op = 22) = true := decide_eq_true ho
        rw [e1]
        by_cases hn : isNameP nm = true
        · rw [hn]
          have hv : varF nm w ⟨q.c + 1, q.m, q.z⟩ = match mget q.m nm with
              | some x => (decide (x = w), ⟨q.c + 1, q.m, false⟩)
              | none => (true, ⟨q.c + 1, mset q.m nm w, false⟩) := by unfold varF; rw [if_pos hn]
          rw [hv]
          cases hm : mget q.m nm with
          | none =>
            simp only [if_true]
            have ih := kidsF_r ks ⟨q.c + 1, mset q.m nm w, false⟩ hp.1
            refine ⟨fun h => ?_, fun h1 h2 h3 => ?_⟩
            · obtain ⟨h1, h2, h3, h4⟩ := ih.yes h
              simp only at h1 h3 h4
              refine ⟨by omega, by simp [h2], by simp only [extM, hm]; exact h3, by rw [h4]; omega⟩
            · simp only [extM, hm] at h3
              exact ih.no (by simp only; omega) (by simpa using h2) h3
          | some x =>
            simp only
            by_cases hx : x = w
            · have ex : decide (x = w) = true := decide_eq_true hx
              rw [ex]
              simp only [if_true]
              have ih := kidsF_r ks ⟨q.c + 1, q.m, false⟩ hp.1
              refine ⟨fun h => ?_, fun h1 h2 h3 => ?_⟩
              · obtain ⟨h1, h2, h3, h4⟩ := ih.yes h
                simp only at h1 h3 h4
                refine ⟨by omega, by simp [h2], by simp only [extM, hm]; rw [if_pos hx]; exact h3, by rw [h4]; omega⟩
              · simp only [extM, hm] at h3
                rw [if_pos hx] at h3
                exact ih.no (by simp only; omega) (by simpa using h2) h3
            · have ex : decide (x = w) = false := decide_eq_false hx
              rw [ex]
              simp only [Bool.false_eq_true, if_false]
              refine ⟨fun h => (by cases h), fun _ _ h3 => ?_⟩
              simp only [extM, hm] at h3
              rw [if_neg hx] at h3
              cases h3
        · have hn' : isNameP nm = false := by simpa using hn
          have hv : varF nm w ⟨q.c + 1, q.m, q.z⟩ = (false, ⟨q.c + 1, q.m, q.z⟩) := by unfold varF; rw [if_neg hn]
          rw [hv, hn']
          simp only [Bool.false_eq_true, if_false]
          exact ⟨fun h => (by cases h), fun _ h2 _ => by simp at h2⟩
      · rw [if_neg ho, if_neg ho]
        have e1 : decide (op = 22) = false := decide_eq_false ho
        rw [e1]
        have ih := kidsF_r ks ⟨q.c + 1, q.m, q.z⟩ hp.1
        refine ⟨fun h => ?_, fun h1 h2 h3 => ih.no (by simp only; omega) (by simpa using h2) h3⟩
        obtain ⟨h1, h2, h3, h4⟩ := ih.yes h
        simp only at h1 h3 h4
        exact ⟨by omega, by simp [h2], h3, by rw [h4]; omega⟩
    · rw [if_neg hp]
      refine ⟨fun h => (by cases h), fun h1 h2 _ => ?_⟩
      exfalso
      apply hp
      simp only [Bool.and_eq_true] at h2
      exact ⟨by omega, h2.1.1⟩
theorem kidsF_r : ∀ (ks : List V.Term) (q : TC), q.c ≤ 240 → ChkR (sizeTs ks) (okTs ks) (varsTs ks) q (kidsF ks q)
  | [], q, hq => by rw [kidsF, sizeTs, okTs, varsTs]; exact ⟨fun _ => ⟨by omega, rfl, rfl, by simp⟩, fun _ _ _ => rfl⟩
  | k :: ks, q, _ => by
    rw [kidsF, sizeTs, okTs, varsTs]
    have h1 := nodeF_r k q
    by_cases hk : (nodeF k q).1 = true
    · rw [if_pos hk]
      obtain ⟨a1, a2, a3, a4⟩ := h1.yes hk
      have h2 := kidsF_r ks (nodeF k q).2 (by omega)
      refine ⟨fun h => ?_, fun b1 b2 b3 => ?_⟩
      · obtain ⟨c1, c2, c3, c4⟩ := h2.yes h
        rw [a4] at c1 c4
        exact ⟨by omega, by rw [a2, c2]; rfl, by rw [extM_app, a3]; exact c3, by rw [c4]; omega⟩
      · rw [extM_app, a3] at b3
        rw [Bool.and_eq_true] at b2
        exact h2.no (by rw [a4]; omega) b2.2 b3
    · rw [if_neg hk]
      refine ⟨fun h => (by cases h), fun b1 b2 b3 => absurd (h1.no (by omega) ?_ ?_) hk⟩
      · rw [Bool.and_eq_true] at b2; exact b2.1
      · rw [extM_app] at b3
        cases e : extM q.m (varsT k) with
        | none => rw [e] at b3; cases b3
        | some _ => rfl
end
theorem check_all (t : V.Term) : (nodeF t ⟨0, [], true⟩).1 = termP t := by
  have h := nodeF_r t ⟨0, [], true⟩
  unfold termP
  rw [Bool.eq_iff_iff]
  constructor
  · intro hy
    obtain ⟨h1, h2, h3, _⟩ := h.yes hy
    simp only at h1 h3
    rw [h2, h3]
    simp
    omega
  · intro hy
    simp only [Bool.and_eq_true, decide_eq_true_eq] at hy
    exact h.no (by simp only; omega) hy.1.2 hy.2
theorem kidsF_snoc : ∀ (ks : List V.Term) (k : V.Term) (q : TC), (kidsF ks q).1 = true → kidsF (ks ++ [k]) q = nodeF k (kidsF ks q).2
  | [], k, q, _ => by
    rw [List.nil_append, kidsF]
    simp only [kidsF]
    split
    · rename_i h; exact Prod.ext h.symm rfl
    · rename_i h; exact Prod.ext (by simpa using h) rfl
  | x :: ks, k, q, h => by
    rw [List.cons_append, kidsF]
    rw [kidsF] at h
    by_cases hx : (nodeF x q).1 = true
    · rw [if_pos hx] at h ⊢
      rw [kidsF_snoc ks k _ h]
      conv => rhs; rw [kidsF, if_pos hx]
    · rw [if_neg hx] at h; cases h
theorem kidsF_stop : ∀ (a b : List V.Term) (q : TC), (kidsF a q).1 = false → kidsF (a ++ b) q = kidsF a q
  | [], b, q, h => by rw [kidsF] at h; cases h
  | x :: a, b, q, h => by
    rw [List.cons_append, kidsF]
    conv => rhs; rw [kidsF]
    rw [kidsF] at h
    by_cases hx : (nodeF x q).1 = true
    · rw [if_pos hx] at h
      rw [if_pos hx, if_pos hx, kidsF_stop a b _ h]
    · rw [if_neg hx, if_neg hx]
noncomputable def kTo (ks : List V.Term) (q : TC) (i : Nat) : Bool × TC := kidsF (ks.take i) q
theorem kTo_0 (ks : List V.Term) (q : TC) : kTo ks q 0 = (true, q) := by simp [kTo, kidsF]
theorem kTo_s {ks : List V.Term} {q : TC} {i : Nat} (hi : i < ks.length) (h : (kTo ks q i).1 = true) : kTo ks q (i + 1) = nodeF (kAt ks i) (kTo ks q i).2 := by
  unfold kTo at *
  rw [List.take_add_one, List.getElem?_eq_getElem hi]
  have e : kAt ks i = ks[i] := by rw [kAt, List.getD_eq_getElem?_getD, List.getElem?_eq_getElem hi]; rfl
  rw [e]
  exact kidsF_snoc _ _ _ h
theorem kTo_end {ks : List V.Term} {q : TC} {i : Nat} (hi : ¬ i < ks.length) : kTo ks q i = kidsF ks q := by
  unfold kTo
  rw [List.take_of_length_le (by omega)]
theorem kTo_no {ks : List V.Term} {q : TC} {i : Nat} (h : (kTo ks q i).1 = false) : kidsF ks q = kTo ks q i := by
  unfold kTo at *
  have := kidsF_stop (ks.take i) (ks.drop i) q h
  rwa [List.take_append_drop] at this
theorem kTo_z {ks : List V.Term} {q : TC} {i : Nat} (h : q.z = true → q.m = []) : (kTo ks q i).2.z = true → (kTo ks q i).2.m = [] := kidsF_z _ h
end Vg
