/- Terms: what it means that one is good; the plain law of the checks. No condition. -/
import Derived.Test.YtjlffejifadkiaaGreatDoorBase
namespace Vg
open Go Go.Proofs
theorem V.Term.eta (x : V.Term) : (⟨x.op, x.w, x.n, x.name, x.kids⟩ : V.Term) = x := by cases x; rfl
def qed (s : ByteArray) (n : Nat) : Int := ((s.data.toList.getD n 0).toNat : Int)
/-! ### names -/
def chOk (i : Nat) (b : Int) : Bool := inP b 97 122 || (inP b 48 57 && decide (0 < i))
def qc3 (s : ByteArray) : Nat → Bool
  | 0 => true
  | k + 1 => qc3 s k && chOk k (qed s k)
def isNameP (s : ByteArray) : Bool := inP s.size 1 8 && qc3 s s.size
theorem qnc {s : ByteArray} : ∀ {k m : Nat}, k ≤ m → qc3 s m = true → qc3 s k = true
  | k, 0, h, _ => by obtain rfl : k = 0 := by omega
                     rfl
  | k, m + 1, h, hm => by
    by_cases e : k = m + 1
    · subst e; exact hm
    · simp only [qc3, Bool.and_eq_true] at hm
      exact qnc omG hm.1
/-! ### a node and its kids -/
abbrev kAt (ks : List V.Term) (i : Nat) : V.Term := ks.getD i K.terms.dflt
def qjz (op : Int) : Int :=
  if op = 0 ∨ op = 22 then 0 else if op = 1 ∨ op = 2 ∨ op = 19 ∨ op = 20 ∨ op = 21 then 1 else if (3 ≤ op ∧ op ≤ 16) ∨ op = 18 then 2 else if op = 17 then 3 else -1
def qju (op w n : Int) (ks : List V.Term) : Bool :=
  if op = 0 ∨ op = 22 then true
  else if op = 1 ∨ op = 2 then decide ((kAt ks 0).w = w)
  else if 3 ≤ op ∧ op ≤ 13 then decide ((kAt ks 0).w = w) && decide ((kAt ks 1).w = w)
  else if 14 ≤ op ∧ op ≤ 16 then decide ((kAt ks 0).w = (kAt ks 1).w) && decide (w = 1)
  else if op = 17 then decide ((kAt ks 0).w = 1) && decide ((kAt ks 1).w = w) && decide ((kAt ks 2).w = w)
  else if op = 18 then decide ((kAt ks 0).w + (kAt ks 1).w = w)
  else if op = 19 then decide (0 ≤ n) && decide (n ≤ (kAt ks 0).w - w)
  else decide ((kAt ks 0).w ≤ w)
structure NodeOk (op w n : Int) (nm : ByteArray) (ks : List V.Term) : Prop where
  width : inP w 1 16 = true
  len : (ks.length : Int) = qjz op
  kw : ks.all (fun k => inP k.w 1 16) = true
  fit : qju op w n ks = true
  const : op = 0 → wordP w n = true
  num : op ≠ 0 → op ≠ 19 → n = 0
  nam : op ≠ 22 → nm = ByteArray.empty
open Classical in
noncomputable def qha (op w n : Int) (nm : ByteArray) (ks : List V.Term) : Bool := decide (NodeOk op w n nm ks)
mutual
def sizeT : V.Term → Nat
  | ⟨_, _, _, _, ks⟩ => 1 + qbb ks
def qbb : List V.Term → Nat
  | [] => 0
  | t :: ts => sizeT t + qbb ts
end
mutual
noncomputable def okT : V.Term → Bool
  | ⟨op, w, n, nm, ks⟩ => qha op w n nm ks && (!decide (op = 22) || isNameP nm) && okTs ks
noncomputable def okTs : List V.Term → Bool
  | [] => true
  | t :: ts => okT t && okTs ts
end
mutual
def qmq : V.Term → List (ByteArray × Int)
  | ⟨op, w, _, nm, ks⟩ => if op = 22 then (nm, w) :: qfd ks else qfd ks
def qfd : List V.Term → List (ByteArray × Int)
  | [] => []
  | t :: ts => qmq t ++ qfd ts
end
theorem qeu : ∀ t, 1 ≤ sizeT t
  | ⟨_, _, _, _, ks⟩ => by rw [sizeT]; omega
theorem qmx : ∀ {ks : List V.Term} {i : Nat}, i < ks.length → sizeT (kAt ks i) ≤ qbb ks
  | t :: ts, 0, _ => by show sizeT t ≤ _; rw [qbb]; omega
  | t :: ts, i + 1, h => by
    have := qmx (ks := ts) (i := i) (by simpa using h)
    show sizeT (kAt ts i) ≤ _
    rw [qbb]; omega
theorem size_kid {op w n : Int} {nm : ByteArray} {ks : List V.Term} {i : Nat} (h : i < ks.length) : sizeT (kAt ks i) < sizeT ⟨op, w, n, nm, ks⟩ := by
  have := qmx h
  rw [sizeT]; omega
def qj4 (m : List (ByteArray × Int)) : List (ByteArray × Int) → Option (List (ByteArray × Int))
  | [] => some m
  | (s, w) :: l => match mget m s with
    | some x => if x = w then qj4 m l else none
    | none => qj4 (qne m s w) l
theorem qdp : ∀ (a b m : List (ByteArray × Int)), qj4 m (a ++ b) = (qj4 m a).bind fun m => qj4 m b
  | [], _, _ => rfl
  | (s, w) :: a, b, m => by
    rw [List.cons_append]
    simp only [qj4]
    cases mget m s with
    | none => exact qdp a b _
    | some x =>
      simp only
      split
      · exact qdp a b m
      · rfl
noncomputable def qd2 (t : V.Term) : Bool := decide (sizeT t ≤ 240) && okT t && (qj4 [] (qmq t)).isSome
/-! ### the program's check -/
structure TC where
  c : Int
  m : List (ByteArray × Int)
  z : Bool
def qf8 (s : ByteArray) (w : Int) (q : TC) : Bool × TC :=
  if isNameP s = true then match mget q.m s with
    | some x => (decide (x = w), ⟨q.c, q.m, false⟩)
    | none => (true, ⟨q.c, qne q.m s w, false⟩)
  else (false, q)
mutual
noncomputable def nodeF : V.Term → TC → Bool × TC
  | ⟨op, w, n, nm, ks⟩, q => if q.c + 1 ≤ 240 ∧ qha op w n nm ks = true then
      if op = 22 then if (qf8 nm w ⟨q.c + 1, q.m, q.z⟩).1 = true then qce ks (qf8 nm w ⟨q.c + 1, q.m, q.z⟩).2 else (false, (qf8 nm w ⟨q.c + 1, q.m, q.z⟩).2)
      else qce ks ⟨q.c + 1, q.m, q.z⟩
    else (false, ⟨q.c + 1, q.m, q.z⟩)
noncomputable def qce : List V.Term → TC → Bool × TC
  | [], q => (true, q)
  | k :: ks, q => if (nodeF k q).1 = true then qce ks (nodeF k q).2 else (false, (nodeF k q).2)
end
theorem varF_c (s : ByteArray) (w : Int) (q : TC) : (qf8 s w q).2.c = q.c := by
  unfold qf8
  split
  · split <;> rfl
  · rfl
theorem varF_z {s : ByteArray} {w : Int} {q : TC} (h : q.z = true → q.m = []) : (qf8 s w q).2.z = true → (qf8 s w q).2.m = [] := by
  unfold qf8
  split
  · split <;> (intro h; cases h)
  · exact h
mutual
theorem nodeF_z : ∀ (t : V.Term) {q : TC}, (q.z = true → q.m = []) → ((nodeF t q).2.z = true → (nodeF t q).2.m = [])
  | ⟨op, w, n, nm, ks⟩, q, h => by
    rw [nodeF]
    split
    · split
      · have hv := varF_z (s := nm) (w := w) (q := ⟨q.c + 1, q.m, q.z⟩) h
        split
        · exact ql0 ks hv
        · exact hv
      · exact ql0 ks h
    · exact h
theorem ql0 : ∀ (ks : List V.Term) {q : TC}, (q.z = true → q.m = []) → ((qce ks q).2.z = true → (qce ks q).2.m = [])
  | [], q, h => by rw [qce]; exact h
  | k :: ks, q, h => by
    rw [qce]
    have hk := nodeF_z k h
    split
    · exact ql0 ks hk
    · exact hk
end
structure ChkR (sz : Nat) (ok : Bool) (vs : List (ByteArray × Int)) (q : TC) (r : Bool × TC) : Prop where
  yes : r.1 = true → q.c + sz ≤ 240 ∧ ok = true ∧ qj4 q.m vs = some r.2.m ∧ r.2.c = q.c + sz
  no : q.c + sz ≤ 240 → ok = true → (qj4 q.m vs).isSome = true → r.1 = true
mutual
theorem qor : ∀ (t : V.Term) (q : TC), ChkR (sizeT t) (okT t) (qmq t) q (nodeF t q)
  | ⟨op, w, n, nm, ks⟩, q => by
    rw [nodeF, sizeT, okT, qmq]
    by_cases hp : q.c + 1 ≤ 240 ∧ qha op w n nm ks = true
    · rw [if_pos hp, hp.2]
      by_cases ho : op = 22
      · rw [if_pos ho, if_pos ho]
        have e1 : decide (op = 22) = true := decide_eq_true ho
        rw [e1]
        by_cases hn : isNameP nm = true
        · rw [hn]
          have hv : qf8 nm w ⟨q.c + 1, q.m, q.z⟩ = match mget q.m nm with
              | some x => (decide (x = w), ⟨q.c + 1, q.m, false⟩)
              | none => (true, ⟨q.c + 1, qne q.m nm w, false⟩) := by unfold qf8; rw [if_pos hn]
          rw [hv]
          cases hm : mget q.m nm with
          | none =>
            simp only [if_true]
            have ih := ql1 ks ⟨q.c + 1, qne q.m nm w, false⟩ hp.1
            refine ⟨fun h => ?_, fun h1 h2 h3 => ?_⟩
            · obtain ⟨h1, h2, h3, h4⟩ := ih.yes h
              simp only at h1 h3 h4
              refine ⟨by omega, by simp [h2], by simp only [qj4, hm]; exact h3, by rw [h4]; omega⟩
            · simp only [qj4, hm] at h3
              exact ih.no (by simp only; omega) (by simpa using h2) h3
          | some x =>
            simp only
            by_cases hx : x = w
            · have ex : decide (x = w) = true := decide_eq_true hx
              rw [ex]
              simp only [if_true]
              have ih := ql1 ks ⟨q.c + 1, q.m, false⟩ hp.1
              refine ⟨fun h => ?_, fun h1 h2 h3 => ?_⟩
              · obtain ⟨h1, h2, h3, h4⟩ := ih.yes h
                simp only at h1 h3 h4
                refine ⟨by omega, by simp [h2], by simp only [qj4, hm]; rw [if_pos hx]; exact h3, by rw [h4]; omega⟩
              · simp only [qj4, hm] at h3
                rw [if_pos hx] at h3
                exact ih.no (by simp only; omega) (by simpa using h2) h3
            · have ex : decide (x = w) = false := decide_eq_false hx
              rw [ex]
              simp only [Bool.false_eq_true, if_false]
              refine ⟨fun h => (by cases h), fun _ _ h3 => ?_⟩
              simp only [qj4, hm] at h3
              rw [if_neg hx] at h3
              cases h3
        · have hn' : isNameP nm = false := by simpa using hn
          have hv : qf8 nm w ⟨q.c + 1, q.m, q.z⟩ = (false, ⟨q.c + 1, q.m, q.z⟩) := by unfold qf8; rw [if_neg hn]
          rw [hv, hn']
          simp only [Bool.false_eq_true, if_false]
          exact ⟨fun h => (by cases h), fun _ h2 _ => by simp at h2⟩
      · rw [if_neg ho, if_neg ho]
        have e1 : decide (op = 22) = false := decide_eq_false ho
        rw [e1]
        have ih := ql1 ks ⟨q.c + 1, q.m, q.z⟩ hp.1
        refine ⟨fun h => ?_, fun h1 h2 h3 => ih.no (by simp only; omega) (by simpa using h2) h3⟩
        obtain ⟨h1, h2, h3, h4⟩ := ih.yes h
        simp only at h1 h3 h4
        exact ⟨by omega, by simp [h2], h3, by rw [h4]; omega⟩
    · rw [if_neg hp]
      refine ⟨fun h => (by cases h), fun h1 h2 _ => ?_⟩
      exfalso
      apply hp
      simp only [Bool.and_eq_true] at h2
      exact ⟨by omega, h2.1.1⟩
theorem ql1 : ∀ (ks : List V.Term) (q : TC), q.c ≤ 240 → ChkR (qbb ks) (okTs ks) (qfd ks) q (qce ks q)
  | [], q, hq => by rw [qce, qbb, okTs, qfd]; exact ⟨fun _ => ⟨by omega, rfl, rfl, by simp⟩, fun _ _ _ => rfl⟩
  | k :: ks, q, _ => by
    rw [qce, qbb, okTs, qfd]
    have h1 := qor k q
    by_cases hk : (nodeF k q).1 = true
    · rw [if_pos hk]
      obtain ⟨a1, a2, a3, a4⟩ := h1.yes hk
      have h2 := ql1 ks (nodeF k q).2 omG
      refine ⟨fun h => ?_, fun b1 b2 b3 => ?_⟩
      · obtain ⟨c1, c2, c3, c4⟩ := h2.yes h
        rw [a4] at c1 c4
        exact ⟨by omega, by rw [a2, c2]; rfl, by rw [qdp, a3]; exact c3, by rw [c4]; omega⟩
      · rw [qdp, a3] at b3
        rw [Bool.and_eq_true] at b2
        exact h2.no (by rw [a4]; omega) b2.2 b3
    · rw [if_neg hk]
      refine ⟨fun h => (by cases h), fun b1 b2 b3 => absurd (h1.no omG ?_ ?_) hk⟩
      · rw [Bool.and_eq_true] at b2; exact b2.1
      · rw [qdp] at b3
        cases e : qj4 q.m (qmq k) with
        | none => rw [e] at b3; cases b3
        | some _ => rfl
end
theorem check_all (t : V.Term) : (nodeF t ⟨0, [], true⟩).1 = qd2 t := by
  have h := qor t ⟨0, [], true⟩
  unfold qd2
  rw [Bool.eq_iff_iff]
  constructor
  · intro hy
    obtain ⟨h1, h2, h3, _⟩ := h.yes hy
    simp only at h1 h3
    rw [h2, h3]
    simp
    omega
  · intro hy
    simp only [Bool.and_eq_true, decide_eq_true_eq] at hy
    exact h.no (by simp only; omega) hy.1.2 hy.2
theorem qkr : ∀ (ks : List V.Term) (k : V.Term) (q : TC), (qce ks q).1 = true → qce (ks ++ [k]) q = nodeF k (qce ks q).2
  | [], k, q, _ => by
    rw [List.nil_append, qce]
    simp only [qce]
    split
    · rename_i h; exact Prod.ext h.symm rfl
    · rename_i h; exact Prod.ext (by simpa using h) rfl
  | x :: ks, k, q, h => by
    rw [List.cons_append, qce]
    rw [qce] at h
    by_cases hx : (nodeF x q).1 = true
    · rw [if_pos hx] at h ⊢
      rw [qkr ks k _ h]
      conv => rhs; rw [qce, if_pos hx]
    · rw [if_neg hx] at h; cases h
theorem qkq : ∀ (a b : List V.Term) (q : TC), (qce a q).1 = false → qce (a ++ b) q = qce a q
  | [], b, q, h => by rw [qce] at h; cases h
  | x :: a, b, q, h => by
    rw [List.cons_append, qce]
    conv => rhs; rw [qce]
    rw [qce] at h
    by_cases hx : (nodeF x q).1 = true
    · rw [if_pos hx] at h
      rw [if_pos hx, if_pos hx, qkq a b _ h]
    · rw [if_neg hx, if_neg hx]
noncomputable def kTo (ks : List V.Term) (q : TC) (i : Nat) : Bool × TC := qce (ks.take i) q
theorem kTo_0 (ks : List V.Term) (q : TC) : kTo ks q 0 = (true, q) := by simp [kTo, qce]
theorem kTo_s {ks : List V.Term} {q : TC} {i : Nat} (hi : i < ks.length) (h : (kTo ks q i).1 = true) : kTo ks q (i + 1) = nodeF (kAt ks i) (kTo ks q i).2 := by
  unfold kTo at *
  rw [List.take_add_one, List.getElem?_eq_getElem hi]
  have e : kAt ks i = ks[i] := by rw [kAt, List.getD_eq_getElem?_getD, List.getElem?_eq_getElem hi]; rfl
  rw [e]
  exact qkr _ _ _ h
theorem kTo_end {ks : List V.Term} {q : TC} {i : Nat} (hi : ¬ i < ks.length) : kTo ks q i = qce ks q := by
  unfold kTo
  rw [List.take_of_length_le omG]
theorem kTo_no {ks : List V.Term} {q : TC} {i : Nat} (h : (kTo ks q i).1 = false) : qce ks q = kTo ks q i := by
  unfold kTo at *
  have := qkq (ks.take i) (ks.drop i) q h
  rwa [List.take_append_drop] at this
theorem kTo_z {ks : List V.Term} {q : TC} {i : Nat} (h : q.z = true → q.m = []) : (kTo ks q i).2.z = true → (kTo ks q i).2.m = [] := ql0 _ h
end Vg
