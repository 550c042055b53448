/- The reference's reader of terms (as a plain function on words): it reads the words of a term back; the text of a term is split into its words. No condition. -/
import Derived.Test.YtcdepophgnlphaaDoorTxtQ
namespace Vg
open Go Go.Proofs
/-! ### words -/
def u4 : Bs → Bs → List Bs
  | wd, [] => if wd = [] then [] else [wd]
  | wd, c :: l => if n6 c = true then (if wd = [] then [] else [wd]) ++ ((if c = 32 then [] else [[c]]) ++ u4 [] l) else u4 (wd ++ [c]) l
mutual
def cA : V.Term → List Bs
  | ⟨op, w, n, nm, ks⟩ =>
    if op = 0 then [r0 w ++ 58 :: r0 n]
    else if op = 22 then [nm.data.toList ++ 58 :: r0 w]
    else [40] :: n8 op :: ((if op = 19 then [r0 n] else []) ++ ((if 19 ≤ op ∧ op ≤ 21 then [r0 w] else []) ++ (p7 ks ++ [[41]])))
def p7 : List V.Term → List Bs
  | [] => []
  | t :: ts => cA t ++ p7 ts
end
theorem lQ : ∀ {a wd l : Bs}, (∀ c ∈ a, n6 c = false) → wd ++ a ≠ [] → k8 l → u4 wd (a ++ l) = (wd ++ a) :: u4 [] l
  | [], wd, l, _, hn, hl => by
    rw [List.append_nil] at hn ⊢
    rcases hl with rfl | ⟨c, r, rfl, hc⟩
    · rw [List.nil_append, u4, if_neg hn]; rfl
    · rw [List.nil_append, u4, if_pos hc, if_neg hn, u4, if_pos hc, if_pos rfl]; rfl
  | c :: a, wd, l, ha, _, hl => by
    have h1 := ha c (List.mem_cons_self ..)
    rw [List.cons_append, u4, if_neg (by rw [h1]; exact Bool.false_ne_true), lQ (fun x hx => ha x (List.mem_cons_of_mem _ hx)) (by simp) hl, List.append_assoc]; rfl
theorem aG {a l : Bs} (h : ∀ c ∈ a, n6 c = false) (hn : a ≠ []) (hl : k8 l) : u4 [] (a ++ l) = a :: u4 [] l := lQ h (by rwa [List.nil_append]) hl
theorem nL (l : Bs) : u4 [] (32 :: l) = u4 [] l := by rw [u4, if_pos (show n6 32 = true from rfl), if_pos rfl, if_pos rfl]; rfl
theorem spW_40 (l : Bs) : u4 [] (40 :: l) = [40] :: u4 [] l := by rw [u4, if_pos (show n6 40 = true from rfl), if_pos rfl, if_neg (by decide)]; rfl
theorem spW_41 (l : Bs) : u4 [] (41 :: l) = [41] :: u4 [] l := by rw [u4, if_pos (show n6 41 = true from rfl), if_pos rfl, if_neg (by decide)]; rfl
theorem fU (n : Int) : r0 n ≠ [] := qE n
theorem opW_ne {op : Int} (h1 : 1 ≤ op) (h2 : op ≤ 21) : n8 op ≠ [] := by
  have h : ∀ k : Nat, k < 21 → opNs.getD k [] ≠ [] := by decide
  exact h _ omG
mutual
theorem kQ : ∀ (t : V.Term) (l : Bs), okT t = true → k8 l → u4 [] (fmtL t ++ l) = cA t ++ u4 [] l
  | ⟨op, w, n, nm, ks⟩, l, h, hl => by
    have hi : (1 ≤ w ∧ w ≤ 16) ∧ (0 ≤ n ∧ n ≤ 65535) := cC h
    have ho : 0 ≤ op ∧ op ≤ 22 := cD h
    rw [fmtL, cA]
    by_cases c0 : op = 0
    · rw [if_pos c0, if_pos c0, aG (fun x hx => by
        rcases List.mem_append.1 hx with e | e
        · exact qB _ x e
        · rcases List.mem_cons.1 e with e | e
          · rw [e]; rfl
          · exact qB _ x e) (by simp) hl]; rfl
    · rw [if_neg c0, if_neg c0]
      by_cases c22 : op = 22
      · have hname : isNameP nm = true := mG h c22
        rw [if_pos c22, if_pos c22, aG (fun x hx => by
          rcases List.mem_append.1 hx with e | e
          · rcases mJ hname x e with q | q
            · exact fD (.inr (.inl q))
            · exact fD (.inr (.inr (.inl q)))
          · rcases List.mem_cons.1 e with e | e
            · rw [e]; rfl
            · exact qB _ x e) (by simp) hl]; rfl
      · rw [if_neg c22, if_neg c22]
        have f2 : k8 (z1 ks ++ 41 :: l) := yJ
        have f1 : k8 ((if 19 ≤ op ∧ op ≤ 21 then 32 :: r0 w else []) ++ (z1 ks ++ 41 :: l)) := by
          split
          · exact yE _
          · exact f2
        have f0 : k8 ((if op = 19 then 32 :: r0 n else []) ++ ((if 19 ≤ op ∧ op ≤ 21 then 32 :: r0 w else []) ++ (z1 ks ++ 41 :: l))) := by
          split
          · exact yE _
          · exact f1
        have e2 : u4 [] ((if 19 ≤ op ∧ op ≤ 21 then 32 :: r0 w else []) ++ (z1 ks ++ 41 :: l)) = (if 19 ≤ op ∧ op ≤ 21 then [r0 w] else []) ++ u4 [] (z1 ks ++ 41 :: l) := by
          split
          · rw [List.cons_append, nL, aG (qB w) (fU w) f2]; rfl
          · rfl
        have e1 : u4 [] ((if op = 19 then 32 :: r0 n else []) ++ ((if 19 ≤ op ∧ op ≤ 21 then 32 :: r0 w else []) ++ (z1 ks ++ 41 :: l))) = (if op = 19 then [r0 n] else []) ++ u4 [] ((if 19 ≤ op ∧ op ≤ 21 then 32 :: r0 w else []) ++ (z1 ks ++ 41 :: l)) := by
          split
          · rw [List.cons_append, nL, aG (qB n) (fU n) f1]; rfl
          · rfl
        have e3 := jQ ks (41 :: l) (lB h) (nV l)
        simp only [List.cons_append, List.append_assoc, List.nil_append]
        rw [spW_40, aG (jG omG omG).2 (opW_ne omG omG) f0, e1, e2, e3, spW_41]
theorem jQ : ∀ (ks : List V.Term) (l : Bs), okTs ks = true → k8 l → u4 [] (z1 ks ++ l) = p7 ks ++ u4 [] l
  | [], l, _, _ => by rw [z1, p7]; rfl
  | t :: ts, l, h, hl => by
    rw [okTs, Bool.and_eq_true] at h
    have hf : k8 (z1 ts ++ l) := by
      cases ts with
      | nil => exact hl
      | cons a b => rw [z1]; exact yE _
    rw [z1, p7, List.cons_append, nL, List.append_assoc, kQ t _ h.1 hf, jQ ts l h.2 hl, List.append_assoc]
end
/-! ### the reader: what is left, or nothing behind a fault -/
abbrev Wds := Option (List Bs)
def j3 : Wds → Bs × Wds
  | some (x :: l) => (x, some l)
  | _ => ([], none)
noncomputable def v7 (st : Wds) : Int × Wds := ((a6 (j3 st).1).1, if (a6 (j3 st).1).2 = true then (j3 st).2 else none)
noncomputable def x6 (tk : Bs) : V.Term × Bool := match f8 tk with
  | none => (r4, false)
  | some (a, b) => if (a6 a).2 = true then (⟨0, (a6 a).1, (a6 b).1, ByteArray.empty, []⟩, (a6 b).2) else (⟨22, (a6 b).1, 0, ⟨a.toArray⟩, []⟩, (a6 b).2)
noncomputable def z7 (rec : Wds → V.Term × Wds) : Nat → Wds → List V.Term → List V.Term × Wds
  | 0, st, acc => (acc, st)
  | g + 1, some (x :: l), acc => if x = [41] then (acc, some (x :: l)) else z7 rec g (rec (some (x :: l))).2 (acc ++ [(rec (some (x :: l))).1])
  | _ + 1, st, acc => (acc, st)
def sW (op w : Int) (ks : List V.Term) : Int :=
  if 14 ≤ op ∧ op ≤ 16 then 1 else if 1 ≤ op ∧ op ≤ 13 then (kAt ks 0).w else if op = 17 then (kAt ks (ks.length - 1)).w else if op = 18 then IntKind.i64.wrap ((kAt ks 0).w + (kAt ks (ks.length - 1)).w) else w
def r5 : Wds → Nat
  | some l => l.length
  | none => 0
def j9 (op w n : Int) (x : List V.Term × Wds) : V.Term × Wds :=
  if (j3 x.2).1 ≠ [41] ∨ x.1 = [] then (⟨op, w, n, ByteArray.empty, x.1⟩, none) else (⟨op, sW op w x.1, n, ByteArray.empty, x.1⟩, (j3 x.2).2)
theorem fin_S {op w n : Int} {ks : List V.Term} {l : List Bs} (h : ks ≠ []) : j9 op w n (ks, some ([41] :: l)) = (⟨op, sW op w ks, n, ByteArray.empty, ks⟩, some l) := if_neg (fun q => q.elim (fun q => q rfl) h)
noncomputable def stepS (rec : Option (Wds → V.Term × Wds)) (st : Wds) : V.Term × Wds :=
  if (j3 st).1 ≠ [40] then ((x6 (j3 st).1).1, if (x6 (j3 st).1).2 = true then (j3 st).2 else none) else
  match j3 (j3 st).2 with
  | (wd, m8) => match rec with
    | none => (⟨u1 wd, 0, 0, ByteArray.empty, []⟩, none)
    | some rec => if u1 wd = 0 then (⟨u1 wd, 0, 0, ByteArray.empty, []⟩, none) else
      match (if u1 wd = 19 then v7 m8 else (0, m8)) with
      | (n, st3) => match (if 19 ≤ u1 wd ∧ u1 wd ≤ 21 then v7 st3 else (0, st3)) with
        | (w, st4) => j9 (u1 wd) w n (z7 rec (r5 st4) st4 [])
noncomputable def termS : Nat → Wds → V.Term × Wds
  | 0, st => stepS none st
  | f + 1, st => stepS (some (termS f)) st
theorem int_S {n : Int} {l : List Bs} (h0 : -9223372036854775808 ≤ n) (h1 : n ≤ 9223372036854775807) : v7 (some (r0 n :: l)) = (n, some l) := by
  show ((a6 (r0 n)).1, if (a6 (r0 n)).2 = true then some l else none) = _
  rw [bC h0 h1]; rfl
theorem leafS_c {w n : Int} (hw : 0 ≤ w ∧ w ≤ 1000) (hn : 0 ≤ n ∧ n ≤ 1000000) : x6 (r0 w ++ 58 :: r0 n) = (⟨0, w, n, ByteArray.empty, []⟩, true) := by
  unfold x6
  rw [eF (gU w)]
  show (if (a6 (r0 w)).2 = true then _ else _) = _
  rw [bC omG omG, bC omG omG]
  rfl
theorem nameNo {nm : ByteArray} (h : isNameP nm = true) : (s4 nm).2 = false := by
  unfold s4
  split
  · next q =>
    exfalso
    obtain ⟨n, _, _, e⟩ := q
    have e' : nm = u2 n := e.symm
    have h2 := h
    unfold isNameP at h2
    rw [Bool.and_eq_true] at h2
    have hs := (w7.1 h2.1).1
    have q1 := rG (k := 1) (m := nm.size) omG h2.2
    simp only [t7, fF, Bool.true_and] at q1
    have q2 : 97 ≤ b7 nm 0 ∧ b7 nm 0 ≤ 122 := by
      simp [inP] at q1; exact q1
    have hm : nm.data.toList.getD 0 0 ∈ r0 n := by
      unfold r0
      rw [← e', List.getD_eq_getElem?_getD, List.getElem?_eq_getElem (show 0 < nm.data.toList.length from by show 0 < nm.size; omega)]
      exact List.getElem_mem _
    have hb : b7 nm 0 = ((nm.data.toList.getD 0 0).toNat : Int) := rfl
    rcases yM hm with e2 | e2
    · rw [hb, e2] at q2; revert q2; decide
    · omega
  · rfl
theorem leafS_v {w : Int} {nm : ByteArray} (hw : 0 ≤ w ∧ w ≤ 1000) (hn : isNameP nm = true) : x6 (nm.data.toList ++ 58 :: r0 w) = (⟨22, w, 0, nm, []⟩, true) := by
  have h58 : 58 ∉ nm.data.toList := fun h => by
    have := mJ hn 58 h
    revert this; decide
  unfold x6
  rw [eF h58]
  show (if (a6 nm.data.toList).2 = true then _ else _) = _
  have e : (a6 nm.data.toList).2 = false := by
    unfold a6
    rw [Array.toArray_toList]
    exact nameNo hn
  rw [e, if_neg Bool.false_ne_true, bC omG omG, Array.toArray_toList]
theorem xT {rec : Wds → V.Term × Wds} : ∀ (ks : List V.Term) (g : Nat) (acc : List V.Term) (l : List Bs), ks.length ≤ g →
    (∀ t, t ∈ ks → ∀ l, rec (some (cA t ++ l)) = (t, some l)) → (∀ t, t ∈ ks → ∃ x r, cA t = x :: r ∧ x ≠ [41]) → z7 rec g (some (p7 ks ++ [41] :: l)) acc = (acc ++ ks, some ([41] :: l))
  | [], g, acc, l, _, _, _ => by
    cases g with
    | zero => rw [p7, z7, List.append_nil]; rfl
    | succ g => rw [p7, List.nil_append, z7, if_pos rfl, List.append_nil]
  | t :: ts, 0, acc, l, hg, _, _ => by simp at hg
  | t :: ts, g + 1, acc, l, hg, hr, hx => by
    obtain ⟨x, r, e, hne⟩ := hx t (List.mem_cons_self ..)
    have h0 := hr t (List.mem_cons_self ..) (p7 ts ++ [41] :: l)
    have ih := xT (rec := rec) ts g (acc ++ [t]) l (by simpa using hg) (fun y hy => hr y (List.mem_cons_of_mem _ hy)) (fun y hy => hx y (List.mem_cons_of_mem _ hy))
    rw [p7, List.append_assoc]
    rw [e, List.cons_append] at h0 ⊢
    rw [z7, if_neg hne, h0]
    show z7 rec g (some (p7 ts ++ [41] :: l)) (acc ++ [t]) = _
    rw [ih, List.append_assoc]; rfl
theorem fP {t : V.Term} (h : okT t = true) : ∃ x r, cA t = x :: r ∧ x ≠ [41] := by
  obtain ⟨op, w, n, nm, ks⟩ := t
  rw [cA]
  split
  · refine ⟨_, _, rfl, fun e => ?_⟩
    have : (58 : UInt8) ∈ ([41] : Bs) := by rw [← e]; simp
    revert this; decide
  · split
    · refine ⟨_, _, rfl, fun e => ?_⟩
      have : (58 : UInt8) ∈ ([41] : Bs) := by rw [← e]; simp
      revert this; decide
    · exact ⟨_, _, rfl, by decide⟩
theorem eP : ∀ (ks : List V.Term) (l : List Bs), okTs ks = true → ks.length ≤ (p7 ks ++ l).length
  | [], l, _ => Nat.zero_le _
  | t :: ts, l, h => by
    rw [okTs, Bool.and_eq_true] at h
    have := eP ts l h.2
    obtain ⟨x, r, e, _⟩ := fP h.1
    rw [p7, e]
    simp only [List.cons_append, List.append_assoc, List.length_cons, List.length_append] at *
    omega
theorem sW_ok {op w n : Int} {nm : ByteArray} {ks : List V.Term} (h : NodeOk op w n nm ks) (h1 : 1 ≤ op) (h2 : op ≤ 21) : sW op (if 19 ≤ op ∧ op ≤ 21 then w else 0) ks = w := by
  have q := pW_ok h h1 h2
  have hl := h.len
  unfold pW at q
  unfold sW
  by_cases c1 : op ≤ 13
  · rw [if_pos c1] at q
    rw [if_neg omG, if_pos omG]; exact q
  · rw [if_neg c1] at q
    by_cases c2 : op ≤ 16
    · rw [if_pos c2] at q
      rw [if_pos omG]; exact q
    · rw [if_neg c2] at q
      rw [if_neg omG, if_neg omG]
      by_cases c3 : op = 17
      · subst c3
        have e : j6 17 = 3 := rfl
        have f := h.fit
        have f' : (decide ((kAt ks 0).w = 1) && decide ((kAt ks 1).w = w) && decide ((kAt ks 2).w = w)) = true := f
        rw [Bool.and_eq_true, Bool.and_eq_true, decide_eq_true_eq, decide_eq_true_eq, decide_eq_true_eq] at f'
        rw [if_pos rfl, show ks.length - 1 = 2 by omega]; exact f'.2
      · rw [if_neg c3] at q
        rw [if_neg c3]
        by_cases c4 : op = 18
        · subst c4
          have e : j6 18 = 2 := rfl
          rw [if_pos rfl] at q
          rw [if_pos rfl, show ks.length - 1 = 1 by omega]; exact q
        · rw [if_neg c4] at q ⊢
          exact q
theorem node_S {rec : Wds → V.Term × Wds} {op w n : Int} {nm : ByteArray} {ks : List V.Term} {l : List Bs} (h : okT ⟨op, w, n, nm, ks⟩ = true) (h1 : 1 ≤ op) (h2 : op ≤ 21) (hr : ∀ t, t ∈ ks → ∀ l, rec (some (cA t ++ l)) = (t, some l)) :
    stepS (some rec) (some ([40] :: n8 op :: ((if op = 19 then [r0 n] else []) ++ ((if 19 ≤ op ∧ op ≤ 21 then [r0 w] else []) ++ (p7 ks ++ [41] :: l))))) = (⟨op, w, n, nm, ks⟩, some l) := by
  have hn : NodeOk op w n nm ks := q9 h
  have hi : (1 ≤ w ∧ w ≤ 16) ∧ (0 ≤ n ∧ n ≤ 65535) := cC h
  have hks := lB h
  have o1 := (jG h1 h2).1
  have e1 : (if op = 19 then v7 (some ((if op = 19 then [r0 n] else []) ++ ((if 19 ≤ op ∧ op ≤ 21 then [r0 w] else []) ++ (p7 ks ++ [41] :: l)))) else (0, some ((if op = 19 then [r0 n] else []) ++ ((if 19 ≤ op ∧ op ≤ 21 then [r0 w] else []) ++ (p7 ks ++ [41] :: l))))) = (n, some ((if 19 ≤ op ∧ op ≤ 21 then [r0 w] else []) ++ (p7 ks ++ [41] :: l))) := by
    by_cases q : op = 19
    · rw [if_pos q, if_pos q]
      exact int_S (by have := hi.2; omega) (by have := hi.2; omega)
    · rw [if_neg q, if_neg q, hn.num omG q]; rfl
  have e2 : (if 19 ≤ op ∧ op ≤ 21 then v7 (some ((if 19 ≤ op ∧ op ≤ 21 then [r0 w] else []) ++ (p7 ks ++ [41] :: l))) else (0, some ((if 19 ≤ op ∧ op ≤ 21 then [r0 w] else []) ++ (p7 ks ++ [41] :: l)))) = ((if 19 ≤ op ∧ op ≤ 21 then w else 0), some (p7 ks ++ [41] :: l)) := by
    by_cases q : 19 ≤ op ∧ op ≤ 21
    · rw [if_pos q, if_pos q, if_pos q]
      exact int_S (by have := hi.1; omega) (by have := hi.1; omega)
    · rw [if_neg q, if_neg q, if_neg q]; rfl
  have e3 := xT (rec := rec) ks (p7 ks ++ [41] :: l).length [] l (eP ks _ hks) hr (fun t ht => fP (by
    obtain ⟨i, hi', rfl⟩ := List.getElem_of_mem ht
    have q := mA hks hi'
    rwa [show kAt ks i = ks[i] from by unfold kAt; rw [List.getD_eq_getElem?_getD, List.getElem?_eq_getElem hi']; rfl] at q))
  have hne : ks ≠ [] := fun e => by
    have hl := hn.len
    rw [e] at hl
    have hk : 1 ≤ j6 op := by unfold j6; repeat' split <;> omega
    simp at hl; omega
  unfold stepS
  rw [if_neg (show ¬ (j3 (some ([40] :: n8 op :: ((if op = 19 then [r0 n] else []) ++ ((if 19 ≤ op ∧ op ≤ 21 then [r0 w] else []) ++ (p7 ks ++ [41] :: l)))))).1 ≠ [40] from fun q => q rfl)]
  dsimp only [j3]
  rw [o1, if_neg omG, e1]
  dsimp only
  rw [e2]
  dsimp only [r5]
  rw [e3, List.nil_append, fin_S hne, sW_ok hn h1 h2, hn.nam omG]
theorem wP : ∀ (f : Nat) (t : V.Term) (l : List Bs), sizeT t ≤ f → okT t = true → termS f (some (cA t ++ l)) = (t, some l)
  | 0, t, l, hs, _ => by have := tI t; omega
  | f + 1, ⟨op, w, n, nm, ks⟩, l, hs, h => by
    have hn : NodeOk op w n nm ks := q9 h
    have hi : (1 ≤ w ∧ w ≤ 16) ∧ (0 ≤ n ∧ n ≤ 65535) := cC h
    have ho : 0 ≤ op ∧ op ≤ 22 := cD h
    rw [termS]
    by_cases c0 : op = 0
    · subst c0
      have hk : ks = [] := List.eq_nil_of_length_eq_zero (by have := hn.len; have e : j6 0 = 0 := rfl; omega)
      have hnm : nm = ByteArray.empty := hn.nam (by decide)
      subst hk hnm
      rw [cA, if_pos rfl]
      unfold stepS
      have hne : r0 w ++ 58 :: r0 n ≠ [40] := fun e => by
        have : (58 : UInt8) ∈ ([40] : Bs) := by rw [← e]; simp
        revert this; decide
      rw [if_pos (show (j3 (some ([r0 w ++ 58 :: r0 n] ++ l))).1 ≠ [40] from hne)]
      show ((x6 (r0 w ++ 58 :: r0 n)).1, if (x6 (r0 w ++ 58 :: r0 n)).2 = true then some l else none) = _
      rw [leafS_c omG omG]; rfl
    · by_cases c22 : op = 22
      · subst c22
        have hk : ks = [] := List.eq_nil_of_length_eq_zero (by have := hn.len; have e : j6 22 = 0 := rfl; omega)
        have hn0 : n = 0 := hn.num (by decide) (by decide)
        subst hk hn0
        have hname : isNameP nm = true := mG h rfl
        rw [cA, if_neg (by decide), if_pos rfl]
        unfold stepS
        have hne : nm.data.toList ++ 58 :: r0 w ≠ [40] := fun e => by
          have : (58 : UInt8) ∈ ([40] : Bs) := by rw [← e]; simp
          revert this; decide
        rw [if_pos (show (j3 (some ([nm.data.toList ++ 58 :: r0 w] ++ l))).1 ≠ [40] from hne)]
        show ((x6 (nm.data.toList ++ 58 :: r0 w)).1, if (x6 (nm.data.toList ++ 58 :: r0 w)).2 = true then some l else none) = _
        rw [leafS_v omG hname]; rfl
      · rw [sizeT] at hs
        rw [cA, if_neg c0, if_neg c22]
        have q := node_S (rec := termS f) (l := l) h omG omG (fun t ht l' => by
          have hst : sizeT t ≤ d3 ks := by
            obtain ⟨i, hi', rfl⟩ := List.getElem_of_mem ht
            have q := xD (ks := ks) hi'
            rwa [show kAt ks i = ks[i] from by unfold kAt; rw [List.getD_eq_getElem?_getD, List.getElem?_eq_getElem hi']; rfl] at q
          have hot : okT t = true := by
            obtain ⟨i, hi', rfl⟩ := List.getElem_of_mem ht
            have q := mA (lB h) hi'
            rwa [show kAt ks i = ks[i] from by unfold kAt; rw [List.getD_eq_getElem?_getD, List.getElem?_eq_getElem hi']; rfl] at q
          exact wP f t l' omG hot)
        simp only [List.append_assoc, List.cons_append, List.nil_append] at q ⊢
        exact q
end Vg
