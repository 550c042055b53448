/- Texts of lists of numbers, of formulas, instructions and programs: the plain law. No condition. -/
import Derived.Test.YtgbjdifegilniaaGreatDoorTxtQ
namespace Vg
open Go Go.Proofs
/-! ### pieces -/
theorem iI {c : UInt8} : ∀ (x : List UInt8) {y : List UInt8}, c ∉ y → d6 c (x ++ c :: y) = d6 c x ++ [y]
  | [], y, h => by rw [List.nil_append, show d6 c (c :: y) = [] :: d6 c y from by rw [d6, if_pos rfl], cC h]; rfl
  | b :: x, y, h => by
    have ih := iI x h
    rw [List.cons_append, d6, d6, ih]
    by_cases hb : b = c
    · rw [if_pos hb, if_pos hb]; rfl
    · rw [if_neg hb, if_neg hb]
      cases e : d6 c x with
      | nil => exact absurd e (nN c x)
      | cons t r => rfl
theorem qV (c : UInt8) (y : List UInt8) : (⟨#[c]⟩ : ByteArray).data.toList ++ y = c :: y := rfl
theorem aT {c : UInt8} {d : List (List UInt8)} : ∀ (y : List UInt8) {x t : List UInt8}, c ∉ y → d6 c x = d ++ [t] → d6 c (x ++ y) = d ++ [t ++ y]
  | [], x, t, _, hx => by rw [List.append_nil, List.append_nil]; exact hx
  | b :: y, x, t, h, hx => by
    simp only [List.mem_cons, not_or] at h
    have q := bT b hx
    rw [if_neg (fun e => h.1 e.symm)] at q
    have ih := aT y h.2 q
    rw [List.append_assoc, List.append_assoc] at ih
    exact ih
theorem cB (x y : ByteArray) : (x ++ y).data.toList = x.data.toList ++ y.data.toList := by rw [ByteArray.data_append, Array.toList_append]
def v7 (c : UInt8) (x : ByteArray) : Prop := c ∉ x.data.toList
theorem z8 {c : UInt8} {x y : ByteArray} (h : v7 c x) (k : v7 c y) : v7 c (x ++ y) := by
  unfold v7 at *
  rw [cB, List.mem_append]
  exact fun e => e.elim h k
theorem yV {c : UInt8} (hc : c.toNat < 48 ∨ 57 < c.toNat) (u : Nat) : c ∉ Lib.decDigits u := fun h => by
  have := lF u c h
  omega
theorem xI {c : UInt8} (hc : c.toNat < 45 ∨ 57 < c.toNat) (n : Int) : v7 c (s1 n) := by
  unfold v7 s1 Lib.itoa
  split
  · intro h
    have h' : c ∈ 45 :: Lib.decDigits n.natAbs := h
    rcases List.mem_cons.1 h' with e | e
    · rw [e] at hc
      have : (45 : UInt8).toNat = 45 := rfl
      omega
    · exact yV omG _ e
  · exact yV omG _
theorem pL {l : List ByteArray} {k : Nat} (h : k < l.length) : l.getD k ⟨#[]⟩ = l[k] := by
  rw [List.getD_eq_getElem?_getD, List.getElem?_eq_getElem h]; rfl
theorem yS {c : UInt8} {l : List ByteArray} (hl : ∀ x ∈ l, v7 c x) : ∀ k, k + 1 ≤ l.length → d6 c (w8 l ⟨#[c]⟩ (k + 1)).data.toList = (l.take (k + 1)).map fun x => x.data.toList
  | 0, h => by
    have hk : 0 < l.length := by omega
    rw [w8, if_pos rfl, w8, pL hk, show (⟨#[]⟩ : ByteArray) ++ l[0] = l[0] from ByteArray.ext (by rw [ByteArray.data_append]; exact Array.empty_append), cC (hl _ (List.getElem_mem hk)), List.take_succ_eq_append_getElem hk]
    rfl
  | k + 1, h => by
    have hk : k + 1 < l.length := by omega
    rw [w8, if_neg omG, pL hk, cB, cB, List.append_assoc, qV]
    rw [iI _ (hl _ (List.getElem_mem hk)), yS hl k omG, List.take_succ_eq_append_getElem hk, List.map_append]
    rfl
def n5 (l : List Int) : ByteArray := w8 (l.map s1) ⟨#[32]⟩ (l.map s1).length
theorem qbr {c : UInt8} {l : List ByteArray} (hl : ∀ x ∈ l, v7 c x) (h0 : 0 < l.length) : o4 c (w8 l ⟨#[c]⟩ l.length) = l := by
  obtain ⟨k, hk⟩ : ∃ k, l.length = k + 1 := ⟨l.length - 1, by omega⟩
  unfold o4
  rw [hk, yS hl k omG, List.map_map, ← hk, List.take_length]
  exact List.map_id _
theorem qbt {l : List Int} (h0 : 0 < l.length) : o4 32 (n5 l) = l.map s1 :=
  qbr (fun x hx => by obtain ⟨n, _, rfl⟩ := List.mem_map.1 hx; exact xI (.inl (by decide)) n) (by rw [List.length_map]; exact h0)
theorem wV {c d : UInt8} (hd : c ≠ d) {l : List ByteArray} (hl : ∀ x ∈ l, v7 c x) : ∀ k, v7 c (w8 l ⟨#[d]⟩ k)
  | 0 => by unfold v7 w8; simp
  | k + 1 => by
    have ih := wV hd hl k
    have hx : v7 c (l.getD k ⟨#[]⟩) := by
      by_cases h : k < l.length
      · rw [pL h]; exact hl _ (List.getElem_mem h)
      · rw [List.getD_eq_getElem?_getD, List.getElem?_eq_none omG]; unfold v7; simp
    rw [w8]
    refine z8 ?_ hx
    split
    · exact ih
    · refine z8 ih ?_
      unfold v7
      simpa using hd
theorem xV {c : UInt8} (hc : c.toNat < 45 ∨ 57 < c.toNat) (h32 : c ≠ 32) (l : List Int) : v7 c (n5 l) :=
  wV h32 (fun x hx => by obtain ⟨n, _, rfl⟩ := List.mem_map.1 hx; exact xI hc n) _
/-! ### sizes -/
theorem fF {n : Int} (h0 : -99999 ≤ n) (h1 : n ≤ 99999) : (s1 n).size ≤ 7 := by
  show (Lib.itoa n).toArray.size ≤ 7
  unfold Lib.itoa
  split
  · have := fH 5 n.natAbs omG
    simp; omega
  · have := fH 5 n.toNat omG
    simp; omega
def lB (l : List Int) : Bool := l.all fun n => inP n (-99999) 99999
theorem dL {l : List Int} {k : Nat} (h : lB l = true) (hk : (k : Int) < l.length) : -99999 ≤ l.getD (k : Int).toNat K.ints.dflt ∧ l.getD (k : Int).toNat K.ints.dflt ≤ 99999 := by
  have hk' : k < l.length := by omega
  have q := List.all_eq_true.1 h (l[k]) (List.getElem_mem hk')
  have e : l.getD (k : Int).toNat K.ints.dflt = l[k] := by rw [Int.toNat_natCast, List.getD_eq_getElem?_getD, List.getElem?_eq_getElem hk']; rfl
  rw [e]
  simp [inP] at q
  omega
theorem qO {l : List Int} (h : lB l = true) : ∀ x ∈ l.map s1, x.size ≤ 100 := by
  intro x hx
  obtain ⟨n, hn, rfl⟩ := List.mem_map.1 hx
  have q := List.all_eq_true.1 h n hn
  simp [inP] at q
  exact Nat.le_trans (fF omG omG) (by decide)
theorem eM {l : List Int} (h : lB l = true) : (n5 l).size ≤ 101 * l.length := by
  have := hP (qO h) (b := ⟨#[32]⟩) (by decide) (l.map s1).length (Nat.le_refl _)
  rw [List.length_map] at this
  unfold n5
  rwa [List.length_map]
theorem fmtN_ne {l : List Int} (h0 : 0 < l.length) : n5 l ≠ ⟨#[]⟩ := by
  obtain ⟨k, hk⟩ : ∃ k, (l.map s1).length = k + 1 := ⟨l.length - 1, by rw [List.length_map]; omega⟩
  intro e
  have h2 := congrArg (fun s : ByteArray => s.data.toList) e
  have hx : (l.map s1)[k]'omG ∈ l.map s1 := List.getElem_mem _
  obtain ⟨n, _, hn⟩ := List.mem_map.1 hx
  unfold n5 at h2
  simp only at h2
  rw [hk, w8, pL omG, cB, ← hn] at h2
  have h3 := (List.append_eq_nil_iff.1 (h2.trans rfl)).2
  exact eF n h3
noncomputable def bD (s : ByteArray) : List Int × Bool :=
  if s = ⟨#[]⟩ then ([], true) else if (o4 32 s).all (fun x => (x6 x).2) = true then ((o4 32 s).map fun x => (x6 x).1, true) else ([], false)
theorem ix_0 : bD ⟨#[]⟩ = ([], true) := if_pos rfl
theorem ix_no {s : ByteArray} {k : Nat} (h0 : s ≠ ⟨#[]⟩) (hk : (k : Int) < (o4 32 s).length) (h : (x6 ((o4 32 s).getD (k : Int).toNat K.strs.dflt)).2 = false) : bD s = ([], false) := by
  unfold bD
  rw [if_neg h0, if_neg]
  intro q
  have hk' : k < (o4 32 s).length := by omega
  have q2 := List.all_eq_true.1 q _ (List.getElem_mem hk')
  rw [Int.toNat_natCast, List.getD_eq_getElem?_getD, List.getElem?_eq_getElem hk'] at h
  rw [show (x6 ((o4 32 s)[k])).2 = false from h] at q2
  cases q2
structure IxI (s : ByteArray) (k : Nat) : Prop where
  le : k ≤ (o4 32 s).length
  all : ∀ x, x ∈ (o4 32 s).take k → (x6 x).2 = true
theorem ix_start (s : ByteArray) : IxI s 0 := ⟨Nat.zero_le _, fun x h => by rw [List.take_zero] at h; cases h⟩
noncomputable def ixV (s : ByteArray) (k : Nat) : List Int := ((o4 32 s).take k).map fun x => (x6 x).1
theorem ix_step {s : ByteArray} {k : Nat} (hI : IxI s k) (hk : (k : Int) < (o4 32 s).length) (h : (x6 ((o4 32 s).getD (k : Int).toNat K.strs.dflt)).2 = true) : IxI s (k + 1) := by
  have hk' : k < (o4 32 s).length := by omega
  refine ⟨by omega, fun x hx => ?_⟩
  rw [List.take_succ_eq_append_getElem hk'] at hx
  rcases List.mem_append.1 hx with hx | hx
  · exact hI.all x hx
  · rw [List.mem_singleton] at hx
    subst hx
    rw [Int.toNat_natCast, List.getD_eq_getElem?_getD, List.getElem?_eq_getElem hk'] at h
    exact h
theorem ix_push {s : ByteArray} {k : Nat} (hk : (k : Int) < (o4 32 s).length) : ixV s (k + 1) = ixV s k ++ [(x6 ((o4 32 s).getD (k : Int).toNat K.strs.dflt)).1] := by
  have hk' : k < (o4 32 s).length := by omega
  unfold ixV
  rw [List.take_succ_eq_append_getElem hk', List.map_append, Int.toNat_natCast, List.getD_eq_getElem?_getD, List.getElem?_eq_getElem hk']; rfl
theorem ix_end {s : ByteArray} {k : Nat} (h0 : s ≠ ⟨#[]⟩) (hI : IxI s k) (hk : ¬ (k : Int) < (o4 32 s).length) : bD s = (ixV s k, true) := by
  have e : (o4 32 s).take k = o4 32 s := List.take_of_length_le omG
  have ha := hI.all
  rw [e] at ha
  unfold bD ixV
  rw [if_neg h0, if_pos (List.all_eq_true.2 ha), e]
theorem iX (s : ByteArray) (k : Nat) : (ixV s k).length ≤ s.size + 1 := by
  have := qbq 32 s
  unfold ixV
  rw [List.length_map, List.length_take]; omega
theorem ix_fmt {l : List Int} (hn : lB l = true) : bD (n5 l) = (l, true) := by
  by_cases h0 : 0 < l.length
  · unfold bD
    have q : ∀ x ∈ l, x6 (s1 x) = (x, true) := fun x hx => by
      have q := List.all_eq_true.1 hn x hx
      simp [inP] at q
      exact cG omG omG
    rw [if_neg (fmtN_ne h0), qbt h0, if_pos]
    · rw [List.map_map]
      refine Prod.ext ?_ rfl
      show l.map (fun x => (x6 (s1 x)).1) = l
      conv => rhs; rw [← List.map_id l]
      exact List.map_congr_left fun x hx => by rw [q x hx]; rfl
    · rw [List.all_eq_true]
      intro x hx
      obtain ⟨n, hn2, rfl⟩ := List.mem_map.1 hx
      rw [q n hn2]
  · have : l = [] := List.length_eq_zero_iff.1 omG
    subst this
    exact ix_0
/-! ### formulas -/
structure ClQ (v : Int) (c : List Int) : Prop where
  lit : ∀ x, x ∈ c → x ≠ 0 ∧ -v ≤ x ∧ x ≤ v
  inc : ∀ i : Nat, i + 1 < c.length → (c.getD i 0).natAbs < (c.getD (i + 1) 0).natAbs
  len : c.length ≤ 8
structure ForQ (v : Int) (cl : List (List Int)) : Prop where
  hv : 1 ≤ v ∧ v ≤ 6
  few : cl.length ≤ 100
  cls : ∀ c, c ∈ cl → ClQ v c
theorem nF {v : Int} {cl : List (List Int)} {k : Nat} (h : ForQ v cl) (hk : (k : Int) < cl.length) : ClQ v (cl.getD (k : Int).toNat K.intss.dflt) := by
  have hk' : k < cl.length := by omega
  rw [Int.toNat_natCast, List.getD_eq_getElem?_getD, List.getElem?_eq_getElem hk']
  exact h.cls _ (List.getElem_mem hk')
theorem hH {v : Int} {c : List Int} (h : ClQ v c) (hv : v ≤ 6) : lB c = true := by
  unfold lB
  rw [List.all_eq_true]
  intro x hx
  have q := h.lit x hx
  simp [inP]; omega
def nB (v : Int) (cl : List (List Int)) : Nat → ByteArray
  | 0 => s1 v
  | k + 1 => nB v cl k ++ (⟨#[124]⟩ ++ n5 (cl.getD k K.intss.dflt))
def yD (v : Int) (cl : List (List Int)) : ByteArray := nB v cl cl.length
theorem cZ {v : Int} {cl : List (List Int)} (h : ForQ v cl) : ∀ k, k ≤ cl.length → (nB v cl k).size ≤ 7 + 810 * k
  | 0, _ => by
    have := h.hv
    exact fF omG omG
  | k + 1, hk => by
    have ih := cZ h k omG
    have q := nF h (k := k) omG
    have q2 := eM (hH q h.hv.2)
    have q3 := q.len
    rw [Int.toNat_natCast] at q2 q3
    have e : (ByteArray.mk #[124]).size = 1 := rfl
    rw [nB, ByteArray.size_append, ByteArray.size_append, e]
    omega
theorem zS (v : Int) (cl : List (List Int)) : ∀ k, k ≤ cl.length → d6 124 (nB v cl k).data.toList = (s1 v :: (cl.take k).map n5).map fun x => x.data.toList
  | 0, _ => by rw [nB, cC (xI (.inr (by decide)) v)]; rfl
  | k + 1, h => by
    have hk : k < cl.length := by omega
    rw [nB, cB, cB, qV]
    rw [iI _ (xV (.inr (by decide)) (by decide) _), zS v cl k omG, List.take_succ_eq_append_getElem hk, List.map_append, List.map_cons, List.map_cons, List.map_append,
      List.getD_eq_getElem?_getD, List.getElem?_eq_getElem hk]
    rfl
theorem qbs (v : Int) (cl : List (List Int)) : o4 124 (yD v cl) = s1 v :: cl.map n5 := by
  unfold o4 yD
  rw [zS v cl _ (Nat.le_refl _), List.map_map, List.take_length]
  exact List.map_id _
/-! ### programs -/
def nlS : ByteArray := ⟨#[10]⟩
def machS : ByteArray := ⟨#[109, 97, 99, 104, 105, 110, 101, 32]⟩
def insWs : List (List UInt8) := [[115, 101, 116], [109, 111, 118, 101], [], [110, 111, 116], [105, 110], [111, 117, 116], [108, 111, 97, 100], [115, 116, 111, 114, 101], [106, 117, 109, 112], [122, 101, 114, 111], [99, 97, 108, 108], [114, 101, 116], [99, 104, 101, 99, 107], [104, 97, 108, 116]]
def u7 (op : Int) : ByteArray := r0 (insWs.getD (op - 1).toNat [])
def g5 (i : V.Ins) : ByteArray :=
  if i.op = 3 then ((((r0 (j8 i.c) ++ sp1) ++ o5 i.a) ++ sp1) ++ o5 i.b)
  else if i.op = 2 ∨ i.op = 7 ∨ i.op = 8 then ((((u7 i.op ++ sp1) ++ o5 i.a) ++ sp1) ++ o5 i.b)
  else if i.op = 1 ∨ i.op = 10 then ((((u7 i.op ++ sp1) ++ o5 i.a) ++ sp1) ++ s1 i.b)
  else if i.op = 4 ∨ i.op = 5 ∨ i.op = 6 ∨ i.op = 13 then ((u7 i.op ++ sp1) ++ o5 i.a)
  else if i.op = 9 ∨ i.op = 11 then ((u7 i.op ++ sp1) ++ s1 i.b)
  else u7 i.op
def t8 (p : V.Prog) : Nat → ByteArray
  | 0 => (machS ++ n5 [p.w, p.mem, p.inn]) ++ nlS
  | k + 1 => t8 p k ++ (g5 (p.code.getD k K.inss.dflt) ++ nlS)
def tC (p : V.Prog) : ByteArray := t8 p p.code.length
theorem vV {c : UInt8} (hc : c.toNat < 45 ∨ 57 < c.toNat) (h : c ≠ 114) (n : Int) : v7 c (o5 n) := z8 (by unfold v7; simpa using h) (xI hc n)
theorem vO {c : UInt8} (hc : c = 10 ∨ c = 32) (op : Int) : v7 c (u7 op) := by
  unfold v7 u7
  have : ∀ l ∈ insWs ++ [[]], (10 : UInt8) ∉ l ∧ (32 : UInt8) ∉ l := by decide
  have hm : insWs.getD (op - 1).toNat [] ∈ insWs ++ [[]] := by
    rw [List.getD_eq_getElem?_getD]
    cases e : insWs[(op - 1).toNat]? with
    | none => simp
    | some x => exact List.mem_append_left _ (List.mem_of_getElem? e)
  have q := this _ hm
  rcases hc with rfl | rfl
  · simpa [r0] using q.1
  · simpa [r0] using q.2
theorem uO {c : UInt8} (hc : c = 10 ∨ c = 32) (op : Int) : v7 c (r0 (j8 op)) := by
  unfold v7 j8
  have : ∀ l ∈ opNs ++ [[]], (10 : UInt8) ∉ l ∧ (32 : UInt8) ∉ l := by decide
  have hm : opNs.getD (op - 1).toNat [] ∈ opNs ++ [[]] := by
    rw [List.getD_eq_getElem?_getD]
    cases e : opNs[(op - 1).toNat]? with
    | none => simp
    | some x => exact List.mem_append_left _ (List.mem_of_getElem? e)
  have q := this _ hm
  rcases hc with rfl | rfl
  · simpa [r0] using q.1
  · simpa [r0] using q.2
theorem qcw (i : V.Ins) : v7 10 (g5 i) := by
  have w := vO (.inl rfl) i.op
  have o := uO (.inl rfl) i.c
  have a := vV (c := 10) (.inl (by decide)) (by decide) i.a
  have b := vV (c := 10) (.inl (by decide)) (by decide) i.b
  have n := xI (c := 10) (.inl (by decide)) i.b
  have s : v7 10 sp1 := by unfold v7; decide
  unfold g5
  split
  · exact z8 (z8 (z8 (z8 o s) a) s) b
  split
  · exact z8 (z8 (z8 (z8 w s) a) s) b
  split
  · exact z8 (z8 (z8 (z8 w s) a) s) n
  split
  · exact z8 (z8 w s) a
  split
  · exact z8 (z8 w s) n
  · exact w
theorem xS (p : V.Prog) : ∀ k, k ≤ p.code.length → d6 10 (t8 p k).data.toList = ((machS ++ n5 [p.w, p.mem, p.inn]) :: (p.code.take k).map g5 ++ [(⟨#[]⟩ : ByteArray)]).map fun x => x.data.toList
  | 0, _ => by
    have h : v7 10 (machS ++ n5 [p.w, p.mem, p.inn]) := z8 (by unfold v7; decide) (xV (.inl (by decide)) (by decide) _)
    rw [t8, cB]
    show d6 10 (_ ++ 10 :: []) = _
    rw [iI _ (by simp), cC h]; rfl
  | k + 1, h => by
    have hk : k < p.code.length := by omega
    have ih := xS p k omG
    have e : (t8 p (k + 1)).data.toList = ((t8 p k).data.toList ++ (g5 (p.code.getD k K.inss.dflt)).data.toList) ++ 10 :: [] := by
      rw [t8, cB, cB, List.append_assoc]; rfl
    rw [e, iI _ (by simp)]
    have e2 : p.code.getD k K.inss.dflt = p.code[k] := by rw [List.getD_eq_getElem?_getD, List.getElem?_eq_getElem hk]; rfl
    rw [e2]
    rw [aT (d := ((machS ++ n5 [p.w, p.mem, p.inn]) :: (p.code.take k).map g5).map fun x => x.data.toList) (t := []) _ (qcw _) (by rw [ih, List.map_append]; rfl), List.nil_append, List.take_succ_eq_append_getElem hk, List.map_append]
    simp only [List.map_append, List.map_cons, List.map_nil, List.cons_append, List.append_assoc, List.nil_append]
theorem qbp (p : V.Prog) : o4 10 (tC p) = (machS ++ n5 [p.w, p.mem, p.inn]) :: p.code.map g5 ++ [(⟨#[]⟩ : ByteArray)] := by
  unfold o4 tC
  rw [xS p _ (Nat.le_refl _), List.map_map, List.take_length]
  exact List.map_id _
def u6 (s : ByteArray) : Nat → Int
  | 0 => 0
  | k + 1 => if u7 ((k : Int) + 1) = s then (k : Int) + 1 else u6 s k
def opX (s : ByteArray) (k : Nat) : Nat → Int
  | 0 => 0
  | n + 1 => if r0 (j8 ((k : Int) + 1)) = s then (k : Int) + 1 else opX s (k + 1) n
def t6 (s : ByteArray) : Int := opX s 0 16
theorem opF_w {c : Int} (h0 : 3 ≤ c) (h1 : c ≤ 16) : t6 (r0 (j8 c)) = c := by
  have : c = 3 ∨ c = 4 ∨ c = 5 ∨ c = 6 ∨ c = 7 ∨ c = 8 ∨ c = 9 ∨ c = 10 ∨ c = 11 ∨ c = 12 ∨ c = 13 ∨ c = 14 ∨ c = 15 ∨ c = 16 := by omega
  rcases this with rfl | rfl | rfl | rfl | rfl | rfl | rfl | rfl | rfl | rfl | rfl | rfl | rfl | rfl <;> decide
theorem insX_o {c : Int} (h0 : 3 ≤ c) (h1 : c ≤ 16) : u6 (r0 (j8 c)) 14 = 0 := by
  have : c = 3 ∨ c = 4 ∨ c = 5 ∨ c = 6 ∨ c = 7 ∨ c = 8 ∨ c = 9 ∨ c = 10 ∨ c = 11 ∨ c = 12 ∨ c = 13 ∨ c = 14 ∨ c = 15 ∨ c = 16 := by omega
  rcases this with rfl | rfl | rfl | rfl | rfl | rfl | rfl | rfl | rfl | rfl | rfl | rfl | rfl | rfl <;> decide
theorem jP {op : Int} (h0 : 1 ≤ op) (h1 : op ≤ 14) (h3 : op ≠ 3) : u6 (u7 op) 14 = op := by
  have : op = 1 ∨ op = 2 ∨ op = 4 ∨ op = 5 ∨ op = 6 ∨ op = 7 ∨ op = 8 ∨ op = 9 ∨ op = 10 ∨ op = 11 ∨ op = 12 ∨ op = 13 ∨ op = 14 := by omega
  rcases this with rfl | rfl | rfl | rfl | rfl | rfl | rfl | rfl | rfl | rfl | rfl | rfl | rfl <;> decide
noncomputable def b8 (l : List ByteArray) : V.Ins :=
  let x := u6 (sAt l 0) 14
  let c := t6 (sAt l 0)
  let k := if x = 0 ∧ 3 ≤ c ∧ c ≤ 16 then 3 else x
  let d := if x = 0 ∧ 3 ≤ c ∧ c ≤ 16 then c else 0
  if l.length = 3 then ⟨k, s6 (sAt l 1), s6 (sAt l 2), d⟩
  else if l.length = 2 ∧ (k = 9 ∨ k = 11) then ⟨k, 0, s6 (sAt l 1), d⟩
  else if l.length = 2 then ⟨k, s6 (sAt l 1), 0, d⟩
  else ⟨k, 0, 0, d⟩
theorem jL {x : ByteArray} (h : v7 32 x) : nb x := h
theorem spl_2 {x y : ByteArray} (hx : nb x) (hy : nb y) : d6 32 ((x ++ sp1) ++ y).data.toList = [x.data.toList, y.data.toList] := by
  simp only [ByteArray.data_append, Array.toList_append, mQ, List.append_assoc, List.cons_append, List.nil_append]
  rw [kD _ hx, cC hy]
theorem uG {x y z : ByteArray} (hx : nb x) (hy : nb y) (hz : nb z) : o4 32 ((((x ++ sp1) ++ y) ++ sp1) ++ z) = [x, y, z] := by unfold o4; rw [spl_3 hx hy hz]; rfl
theorem sL {x y : ByteArray} (hx : nb x) (hy : nb y) : o4 32 ((x ++ sp1) ++ y) = [x, y] := by unfold o4; rw [spl_2 hx hy]; rfl
theorem ins_1 {x : ByteArray} (hx : nb x) : o4 32 x = [x] := by unfold o4; rw [cC hx]; rfl
theorem raw_3 (x y z : ByteArray) : b8 [x, y, z] = ⟨if u6 x 14 = 0 ∧ 3 ≤ t6 x ∧ t6 x ≤ 16 then 3 else u6 x 14, s6 y, s6 z, if u6 x 14 = 0 ∧ 3 ≤ t6 x ∧ t6 x ≤ 16 then t6 x else 0⟩ := rfl
theorem pU {op : Int} (h0 : 1 ≤ op) (h1 : op ≤ 14) (h3 : op ≠ 3) (y z : ByteArray) : b8 [u7 op, y, z] = ⟨op, s6 y, s6 z, 0⟩ := by
  rw [raw_3, jP h0 h1 h3, if_neg omG, if_neg omG]
theorem raw_o3 {c : Int} (h0 : 3 ≤ c) (h1 : c ≤ 16) (y z : ByteArray) : b8 [r0 (j8 c), y, z] = ⟨3, s6 y, s6 z, c⟩ := by
  rw [raw_3, insX_o h0 h1, opF_w h0 h1, if_pos ⟨rfl, h0, h1⟩, if_pos ⟨rfl, h0, h1⟩]
theorem qU {op : Int} (h0 : 1 ≤ op) (h1 : op ≤ 14) (h3 : op ≠ 3) (y : ByteArray) : b8 [u7 op, y] = if op = 9 ∨ op = 11 then ⟨op, 0, s6 y, 0⟩ else ⟨op, s6 y, 0, 0⟩ := by
  have e : sAt [u7 op, y] 0 = u7 op := rfl
  have e1 : sAt [u7 op, y] 1 = y := rfl
  have l : ([u7 op, y] : List ByteArray).length = 2 := rfl
  unfold b8
  simp only [e, e1, l, jP h0 h1 h3]
  rw [if_neg (show ¬ (op = 0 ∧ _) from fun k => by have := k.1; omega), if_neg (show ¬ (op = 0 ∧ _) from fun k => by have := k.1; omega), if_neg (by decide)]
  by_cases k : op = 9 ∨ op = 11
  · rw [if_pos ⟨trivial, k⟩, if_pos k]
  · rw [if_neg (fun x => k x.2), if_pos trivial, if_neg k]
theorem raw_w1 {op : Int} (h0 : 1 ≤ op) (h1 : op ≤ 14) (h3 : op ≠ 3) : b8 [u7 op] = ⟨op, 0, 0, 0⟩ := by
  have e : sAt [u7 op] 0 = u7 op := rfl
  have l : ([u7 op] : List ByteArray).length = 1 := rfl
  unfold b8
  simp only [e, l, jP h0 h1 h3]
  rw [if_neg (show ¬ (op = 0 ∧ _) from fun k => by have := k.1; omega), if_neg (show ¬ (op = 0 ∧ _) from fun k => by have := k.1; omega), if_neg (by decide), if_neg (fun k => absurd k.1 (by decide)), if_neg (by decide)]
theorem uX {op a b c w n : Int} (h : p5 ⟨op, a, b, c⟩ w n = true) : 1 ≤ op ∧ op ≤ 14 := by
  unfold p5 at h
  simp only at h
  repeat' split at h
  all_goals first | omega | cases h
theorem yR {w b : Int} (hw : w ≤ 8) (h : wordP w b = true) : 0 ≤ b ∧ b < 256 := by
  simp [wordP, inP] at h
  have : (2 : Int) ^ w.toNat ≤ 2 ^ 8 := by
    have : w.toNat ≤ 8 := by omega
    exact_mod_cast Nat.pow_le_pow_right (by decide) this
  omega
theorem oX {i : V.Ins} {w n : Int} (h : p5 i w n = true) (hw : w ≤ 8) (hn : n ≤ 40) : b8 (o4 32 (g5 i)) = i := by
  obtain ⟨op, a, b, c⟩ := i
  have q := jL (vO (.inr rfl) op)
  have qo := jL (uO (.inr rfl) c)
  have qa := zC a
  have qb := zC b
  have qn := tD b
  have ho := uX h
  have r1 : 1 ≤ op := ho.1
  have r2 : op ≤ 14 := ho.2
  unfold g5
  unfold p5 at h
  simp only at h ⊢
  by_cases k3 : op = 3
  · rw [if_neg omG, if_neg omG, if_pos k3] at h
    simp [regP, inP] at h
    rw [if_pos k3, uG qo qa qb, raw_o3 omG omG, bA omG omG, bA omG omG, k3]
  · rw [if_neg k3]
    by_cases k2 : op = 2 ∨ op = 7 ∨ op = 8
    · rw [if_neg omG, if_pos k2] at h
      simp [regP, inP] at h
      rw [if_pos k2, uG q qa qb, pU r1 r2 k3, bA omG omG, bA omG omG, h.2]
    · rw [if_neg k2]
      by_cases k1 : op = 1 ∨ op = 10
      · rw [if_pos k1, uG q qa qn, pU r1 r2 k3]
        rcases k1 with k1 | k1
        · rw [if_pos k1] at h
          rw [Bool.and_eq_true, Bool.and_eq_true] at h
          have h2 := yR hw h.1.2
          have h3 := h.1.1
          have h4 := of_decide_eq_true h.2
          simp [regP, inP] at h3
          rw [bA omG omG, rD omG omG, h4]
        · rw [if_neg omG, if_neg omG, if_neg omG, if_neg omG, if_neg omG, if_pos k1] at h
          simp [regP, inP] at h
          rw [bA omG omG, rD omG omG, h.2]
      · rw [if_neg k1]
        by_cases k4 : op = 4 ∨ op = 5 ∨ op = 6 ∨ op = 13
        · rw [if_neg omG, if_neg k2, if_neg k3, if_pos k4] at h
          simp [regP, inP] at h
          rw [if_pos k4, sL q qa, qU r1 r2 k3, if_neg omG, bA omG omG, h.2, h.1.2]
        · rw [if_neg k4]
          by_cases k9 : op = 9 ∨ op = 11
          · rw [if_neg omG, if_neg k2, if_neg k3, if_neg k4, if_pos k9] at h
            simp [inP] at h
            rw [if_pos k9, sL q qn, qU r1 r2 k3, if_pos k9, rD omG omG, h.2, h.1.1]
          · rw [if_neg k9]
            rw [if_neg omG, if_neg k2, if_neg k3, if_neg k4, if_neg k9, if_neg omG, if_pos omG] at h
            simp at h
            rw [ins_1 q, raw_w1 r1 r2 k3, h.2, h.1.1, h.1.2]
theorem qdf (i : V.Ins) : (o4 32 (g5 i)).length ≤ 3 := by
  have q := jL (vO (.inr rfl) i.op)
  have qo := jL (uO (.inr rfl) i.c)
  have qa := zC i.a
  have qb := zC i.b
  have qn := tD i.b
  unfold g5
  split
  · rw [uG qo qa qb]; simp
  split
  · rw [uG q qa qb]; simp
  split
  · rw [uG q qa qn]; simp
  split
  · rw [sL q qa]; simp
  split
  · rw [sL q qn]; simp
  · rw [ins_1 q]; simp
theorem ins_ne {i : V.Ins} {w n : Int} (h : p5 i w n = true) (hw : w ≤ 8) (hn : n ≤ 40) : g5 i ≠ ⟨#[]⟩ := fun e => by
  have q := oX h hw hn
  rw [e] at q
  have e1 : o4 32 ⟨#[]⟩ = [(⟨#[]⟩ : ByteArray)] := rfl
  have e2 : u6 (⟨#[]⟩ : ByteArray) 14 = 3 := by decide
  have e3 : sAt [(⟨#[]⟩ : ByteArray)] 0 = ⟨#[]⟩ := rfl
  have e4 : ([(⟨#[]⟩ : ByteArray)]).length = 1 := rfl
  rw [e1] at q
  unfold b8 at q
  simp only [e3, e4, e2] at q
  subst q
  simp [p5, inP] at h
def y7 (i : V.Ins) (w n : Int) : ByteArray := if (inP w 2 8 && inP n 1 40 && p5 i w n) = true then g5 i else ⟨#[]⟩
noncomputable def pA (s : ByteArray) (w n : Int) : V.Ins × Bool :=
  if s ≠ ⟨#[]⟩ ∧ (o4 32 s).length ≤ 3 ∧ y7 (b8 (o4 32 s)) w n = s then (b8 (o4 32 s), true) else (⟨0, 0, 0, 0⟩, false)
theorem pX {i : V.Ins} {w n : Int} (h : p5 i w n = true) (hw : inP w 2 8 = true) (hn : inP n 1 40 = true) : pA (y7 i w n) w n = (i, true) := by
  have hw2 : w ≤ 8 := by simp [inP] at hw; omega
  have hn2 : n ≤ 40 := by simp [inP] at hn; omega
  have e : y7 i w n = g5 i := if_pos (by rw [hw, hn, h]; rfl)
  have b := oX h hw2 hn2
  unfold pA
  rw [e, b, if_pos ⟨ins_ne h hw2 hn2, qdf i, e⟩]
/-! ### lines, prefixes -/
theorem iO (p : V.Prog) : ∀ k, t8 p k ≠ ⟨#[]⟩
  | 0 => fun e => by
    have h := congrArg (fun s : ByteArray => s.data.toList) e
    simp only [t8] at h
    rw [cB] at h
    exact absurd (List.append_eq_nil_iff.1 (h.trans rfl)).2 (by decide)
  | k + 1 => fun e => by
    have h := congrArg (fun s : ByteArray => s.data.toList) e
    simp only [t8] at h
    rw [cB, cB] at h
    exact absurd (List.append_eq_nil_iff.1 (List.append_eq_nil_iff.1 (h.trans rfl)).2).2 (by decide)
def cpX (s p : ByteArray) : ByteArray × Bool := if p.size ≤ s.size ∧ s.extract 0 p.size = p then (s.extract p.size s.size, true) else (s, false)
theorem qet (a b : ByteArray) : (a ++ b).extract 0 a.size = a := by
  apply ByteArray.ext
  rw [ByteArray.data_extract, ByteArray.data_append]
  apply Array.ext'
  rw [Array.toList_extract, Array.toList_append]
  show ((a.data.toList ++ b.data.toList).drop 0).take (a.size - 0) = a.data.toList
  rw [List.drop_zero, Nat.sub_zero]
  exact List.take_left' rfl
theorem qes (a b : ByteArray) : (a ++ b).extract a.size (a ++ b).size = b := by
  apply ByteArray.ext
  rw [ByteArray.size_append, ByteArray.data_extract, ByteArray.data_append]
  apply Array.ext'
  rw [Array.toList_extract, Array.toList_append]
  show ((a.data.toList ++ b.data.toList).drop a.size).take (a.size + b.size - a.size) = b.data.toList
  rw [List.drop_left' (show a.data.toList.length = a.size from rfl), Nat.add_sub_cancel_left]
  exact List.take_of_length_le (Nat.le_refl _)
theorem cpX_app (a b : ByteArray) : cpX (a ++ b) a = (b, true) := by
  unfold cpX
  rw [if_pos ⟨by rw [ByteArray.size_append]; omega, qet a b⟩, qes]
end Vg
