/- The program's reader of terms: contract. Condition: texts are not too long. -/
import Derived.Test.YtgbjdifegilniaaGreatDoorTxtK
namespace Vg
open Go Go.Proofs
set_option maxRecDepth 100000
set_option maxHeartbeats 40000000
structure IHr (s : ByteArray) (f : Nat) : Prop where
  call : 1 ≤ f → ∀ (c : Nat) (l : Bs), SufR s l → c ≤ 240 → 240 ≤ (f - 1) + c → CallsG Tryz.prog 30 [.ptr 0 0] [.box [.dat (.str s), .dat (.i (u1 s l)), .dat (.i (c : Int))]] 1
    (fun res B => ((m0 (f - 1) c l).1.1.kids = [] ∧ res = .tup [mC (m0 (f - 1) c l).1.1, .dat (.bool (m0 (f - 1) c l).1.2)] ∧ B = [.box [.dat (.str s), .dat (.i (u1 s (m0 (f - 1) c l).2.2)), .dat (.i ((m0 (f - 1) c l).2.1 : Int))]]) ∨ ((m0 (f - 1) c l).1.2 = true ∧ res = .tup [.agg [.dat (.i (m0 (f - 1) c l).1.1.op), .dat (.i (m0 (f - 1) c l).1.1.w), .dat (.i (m0 (f - 1) c l).1.1.n), .dat (.str (m0 (f - 1) c l).1.1.name), .row 1], .dat (.bool true)] ∧ B = [.box [.dat (.str s), .dat (.i (u1 s (m0 (f - 1) c l).2.2)), .dat (.i ((m0 (f - 1) c l).2.1 : Int))], .tree 25 .terms (m0 (f - 1) c l).1.1.kids]))
theorem ih_r {s : ByteArray} {f : Nat} (ih : IHr s f) {c : Nat} {l : Bs} (hf : 1 ≤ f) (hr : SufR s l) (hc : c ≤ 240) (hfc : 240 ≤ (f - 1) + c) : CallsG Tryz.prog 30 [.ptr 0 0] [.box [.dat (.str s), .dat (.i (u1 s l)), .dat (.i (c : Int))]] 1
    (fun res B => ((m0 (f - 1) c l).1.1.kids = [] ∧ res = .tup [mC (m0 (f - 1) c l).1.1, .dat (.bool (m0 (f - 1) c l).1.2)] ∧ B = [.box [.dat (.str s), .dat (.i (u1 s (m0 (f - 1) c l).2.2)), .dat (.i ((m0 (f - 1) c l).2.1 : Int))]]) ∨ ((m0 (f - 1) c l).1.2 = true ∧ res = .tup [.agg [.dat (.i (m0 (f - 1) c l).1.1.op), .dat (.i (m0 (f - 1) c l).1.1.w), .dat (.i (m0 (f - 1) c l).1.1.n), .dat (.str (m0 (f - 1) c l).1.1.name), .row 1], .dat (.bool true)] ∧ B = [.box [.dat (.str s), .dat (.i (u1 s (m0 (f - 1) c l).2.2)), .dat (.i ((m0 (f - 1) c l).2.1 : Int))], .tree 25 .terms (m0 (f - 1) c l).1.1.kids])) := ih.call hf c l hr hc hfc
structure GoR (c : Nat) (l : Bs) : Prop where
  hb : (takeR 40 l).1 = true
  hc : c + 1 ≤ 240
  h0 : n6 (takeR 40 l).2 ≠ 0
  h3 : (t7 (takeR 40 l).2).1.2 = true
  h4 : (nd4 (takeR 40 l).2).1.2 = true
structure KdR (s : ByteArray) (f c : Nat) (l : Bs) (acc : List V.Term) (c' : Nat) (l' : Bs) : Prop where
  eq : ∃ g, l'.length ≤ g ∧ d8 (m0 (f - 1)) (nd4 (takeR 40 l).2).2.length (c + 1) (nd4 (takeR 40 l).2).2 [] = d8 (m0 (f - 1)) g c' l' acc
  len : acc.length + l'.length ≤ 1048576
  suf : SufR s l'
  cnt : c + 1 ≤ c' ∧ c' ≤ 240
  go : GoR c l
section
variable {s : ByteArray} {f c : Nat} {l : Bs}
theorem wc (hc : c ≤ 240) : IntKind.i64.wrap ((c : Int) + 1) = ((c + 1 : Nat) : Int) := by rw [z1 omG omG]; rfl
theorem p_a (hc : c ≤ 240) (h : IntKind.i64.wrap ((c : Int) + 1) > 240) : m0 f c l = ((w5, false), c + 1, l) := by
  rw [wc hc] at h
  cases f with
  | zero => rfl
  | succ f => rw [m0, if_pos omG]
theorem fC (hc : c ≤ 240) (h : ¬ IntKind.i64.wrap ((c : Int) + 1) > 240) : c + 1 ≤ 240 := by rw [wc hc] at h; omega
theorem p_b (hc : c ≤ 240) (h : ¬ IntKind.i64.wrap ((c : Int) + 1) > 240) (hfc : 240 ≤ f + c) (hb : (takeR 40 l).1 = false) : m0 f c l = (w7 (u0 (takeR 40 l).2).1, c + 1, (u0 (takeR 40 l).2).2) := by
  have := fC hc h
  cases f with
  | zero => omega
  | succ f =>
    rw [m0, if_neg omG]
    split
    · next e => rw [e]
    · next e => rw [e] at hb; cases hb
theorem p_n (hc : c + 1 ≤ 240) (hfc : 240 ≤ f + c) (hb : (takeR 40 l).1 = true) : m0 f c l = eA (m0 (f - 1)) (c + 1) (takeR 40 l).2 := by
  cases f with
  | zero => omega
  | succ f =>
    rw [m0, if_neg omG]
    split
    · next e => rw [e] at hb; cases hb
    · next e => rw [e]; rfl
theorem leafT_k (tk : Bs) : (w7 tk).1.kids = [] := by
  unfold w7
  split
  · rfl
  · split
    · rfl
    · split <;> rfl
/-! numbers -/
theorem d3y (h : s4 (u0 l).1 = 19) : t7 l = y6 (u0 l).2 := if_pos h
theorem d3n (h : ¬ s4 (u0 l).1 = 19) : t7 l = ((0, true), (u0 l).2) := if_neg h
structure IsW (l : Bs) : Prop where
  h : 19 ≤ n6 l ∧ n6 l ≤ 21
theorem isw1 (h : s4 (u0 l).1 = 19) : IsW l := ⟨by show 19 ≤ s4 (u0 l).1 ∧ _; rw [show n6 l = s4 (u0 l).1 from rfl]; omega⟩
theorem isw2 (h : s4 (u0 l).1 = 20) : IsW l := ⟨by show 19 ≤ s4 (u0 l).1 ∧ _; rw [show n6 l = s4 (u0 l).1 from rfl]; omega⟩
theorem isw3 (h : s4 (u0 l).1 = 21) : IsW l := ⟨by show 19 ≤ s4 (u0 l).1 ∧ _; rw [show n6 l = s4 (u0 l).1 from rfl]; omega⟩
theorem d4y (h : IsW l) : nd4 l = y6 (t7 l).2 := if_pos h.h
theorem d4n (h1 : ¬ s4 (u0 l).1 = 19) (h2 : ¬ s4 (u0 l).1 = 20) (h3 : ¬ s4 (u0 l).1 = 21) : nd4 l = ((0, true), (t7 l).2) := if_neg (by
  show ¬ (19 ≤ s4 (u0 l).1 ∧ s4 (u0 l).1 ≤ 21); omega)
structure NmR (l : Bs) (x y : (Int × Bool) × Bs) : Prop where
  e3 : t7 l = x
  e4 : nd4 l = y
theorem nm1 (h : s4 (u0 l).1 = 19) : NmR l (y6 (u0 l).2) (y6 (y6 (u0 l).2).2) := ⟨d3y h, by rw [d4y (isw1 h), d3y h]⟩
theorem nm2 (h : ¬ s4 (u0 l).1 = 19) (h2 : s4 (u0 l).1 = 20) : NmR l ((0, true), (u0 l).2) (y6 (u0 l).2) := ⟨d3n h, by rw [d4y (isw2 h2), d3n h]⟩
theorem nm3 (h : ¬ s4 (u0 l).1 = 19) (h2 : s4 (u0 l).1 = 21) : NmR l ((0, true), (u0 l).2) (y6 (u0 l).2) := ⟨d3n h, by rw [d4y (isw3 h2), d3n h]⟩
theorem nm4 (h1 : ¬ s4 (u0 l).1 = 19) (h2 : ¬ s4 (u0 l).1 = 20) (h3 : ¬ s4 (u0 l).1 = 21) : NmR l ((0, true), (u0 l).2) ((0, true), (u0 l).2) := ⟨d3n h1, by rw [d4n h1 h2 h3, d3n h1]⟩
/-! the node's ways -/
variable {acc : List V.Term} {c' : Nat} {l' : Bs}
theorem p_0 (hc : c + 1 ≤ 240) (hfc : 240 ≤ f + c) (hb : (takeR 40 l).1 = true) (h : s4 (u0 (takeR 40 l).2).1 = 0) : m0 f c l = ((w5, false), c + 1, (u0 (takeR 40 l).2).2) := (p_n hc hfc hb).trans (nr_0 h)
theorem p_3 (hc : c + 1 ≤ 240) (hfc : 240 ≤ f + c) (hb : (takeR 40 l).1 = true) (h0 : ¬ s4 (u0 (takeR 40 l).2).1 = 0) {x y : (Int × Bool) × Bs} (hn : NmR (takeR 40 l).2 x y) (h : x.1.2 = false) : m0 f c l = ((w5, false), c + 1, x.2) := by
  rw [p_n hc hfc hb, nr_3 h0 (by rw [hn.e3]; exact h), hn.e3]
theorem p_4 (hc : c + 1 ≤ 240) (hfc : 240 ≤ f + c) (hb : (takeR 40 l).1 = true) (h0 : ¬ s4 (u0 (takeR 40 l).2).1 = 0) {x y : (Int × Bool) × Bs} (hn : NmR (takeR 40 l).2 x y) (h : x.1.2 = true) (h4 : y.1.2 = false) : m0 f c l = ((w5, false), c + 1, y.2) := by
  rw [p_n hc hfc hb, nr_4 h0 (by rw [hn.e3]; exact h) (by rw [hn.e4]; exact h4), hn.e4]
theorem go_R (hc : c + 1 ≤ 240) (hb : (takeR 40 l).1 = true) (h0 : ¬ s4 (u0 (takeR 40 l).2).1 = 0) {x y : (Int × Bool) × Bs} (hn : NmR (takeR 40 l).2 x y) (h : x.1.2 = true) (h4 : y.1.2 = true) : GoR c l :=
  ⟨hb, hc, h0, by rw [hn.e3]; exact h, by rw [hn.e4]; exact h4⟩
theorem KdR.zero (hr : SufR s l) (hg : GoR c l) : KdR s f c l [] (c + 1) (nd4 (takeR 40 l).2).2 := by
  have h1 := jG (hr.take (c := 40))
  have h2 := h1.le
  have h3 := h1.sz
  exact ⟨⟨_, Nat.le_refl _, rfl⟩, by rw [List.length_nil]; omega, h1, ⟨Nat.le_refl _, hg.hc⟩, hg⟩
theorem qS {d : UInt8} (h : (takeR d l').1 = true) : (takeR d l').2.length < l'.length := by
  cases l' with
  | nil => cases h
  | cons x r =>
    rw [takeR] at h ⊢
    split at h
    · next e => rw [if_pos e]; exact Nat.lt_succ_self _
    · cases h
theorem kr_t {g : Nat} (h : (takeR 32 l').1 = true) : d8 (m0 (f - 1)) (g + 1) c' l' acc = match m0 (f - 1) c' (takeR 32 l').2 with
      | ((t, true), c'', r) => d8 (m0 (f - 1)) g c'' r (acc ++ [t])
      | ((_, false), c'', r) => (none, c'', r) := by
  rw [d8]
  split
  · next e => rw [e] at h; cases h
  · next e => rw [e]; rfl
theorem aX {rec : Nat → Bs → RdT} (hr : ∀ c l, c ≤ (rec c l).2.1) : ∀ (g c : Nat) (l : Bs) (acc : List V.Term), c ≤ (d8 rec g c l acc).2.1
  | 0, c, l, acc => Nat.le_refl _
  | g + 1, c, l, acc => by
    rw [d8]
    split
    · exact Nat.le_refl _
    · next l' e =>
      have h := hr c l'
      split
      · next t c' r e' => rw [e'] at h; exact Nat.le_trans h (aX hr g _ _ _)
      · next c' r e' => rw [e'] at h; exact h
theorem tr_up : ∀ (f c : Nat) (l : Bs), c ≤ (m0 f c l).2.1
  | 0, c, l => Nat.le_succ _
  | f + 1, c, l => by
    rw [m0]
    split
    · exact Nat.le_succ _
    · split
      · exact Nat.le_succ _
      · next l1 _ =>
        by_cases h0 : n6 l1 = 0
        · rw [nr_0 h0]; exact Nat.le_succ _
        · cases h3 : (t7 l1).1.2 with
          | false => rw [nr_3 h0 h3]; exact Nat.le_succ _
          | true =>
            cases h4 : (nd4 l1).1.2 with
            | false => rw [nr_4 h0 h3 h4]; exact Nat.le_succ _
            | true =>
              rw [nr_k h0 h3 h4]
              have hk := aX (rec := m0 f) (fun c l => tr_up f c l) (nd4 l1).2.length (c + 1) (nd4 l1).2 []
              split
              · next e => rw [e] at hk; exact Nat.le_trans (Nat.le_succ _) hk
              · next e =>
                rw [e] at hk
                split
                · exact Nat.le_trans (Nat.le_succ _) hk
                · split <;> exact Nat.le_trans (Nat.le_succ _) hk
theorem KdR.step (hx : KdR s f c l acc c' l') (ht : (takeR 32 l').1 = true) (hk : (m0 (f - 1) c' (takeR 32 l').2).1.2 = true) :
    KdR s f c l (acc ++ [(m0 (f - 1) c' (takeR 32 l').2).1.1]) (m0 (f - 1) c' (takeR 32 l').2).2.1 (m0 (f - 1) c' (takeR 32 l').2).2.2 ∧ (m0 (f - 1) c' (takeR 32 l').2).2.2.length < l'.length := by
  obtain ⟨g, hg, he⟩ := hx.eq
  have hl := qS ht
  have gd := jN s (f - 1)
  have h2 := gd.len c' (takeR 32 l').2
  have h3 := gd.cnt c' (takeR 32 l').2 hk
  have h4 := gd.suf c' (takeR 32 l').2 hx.suf.take
  have hlen := hx.len
  have hcnt : c' ≤ (m0 (f - 1) c' (takeR 32 l').2).2.1 := tr_up (f - 1) c' _
  have hc0 := hx.cnt
  cases g with
  | zero => omega
  | succ g =>
    rw [kr_t ht] at he
    refine ⟨⟨⟨g, by omega, ?_⟩, by rw [List.length_append, List.length_cons, List.length_nil]; omega, h4, ⟨by omega, h3⟩, hx.go⟩, by omega⟩
    rw [he]
    split
    · next e => rw [e]
    · next e => rw [e] at hk; cases hk
theorem p_g (hfc : 240 ≤ f + c) (hg : GoR c l) : m0 f c l = match d8 (m0 (f - 1)) (nd4 (takeR 40 l).2).2.length (c + 1) (nd4 (takeR 40 l).2).2 [] with
      | (none, c', l5) => ((w5, false), c', l5)
      | (some ks, c', l5) => match takeR 41 l5 with
        | (false, l6) => ((w5, false), c', l6)
        | (true, l6) => if (ks.length : Int) = e8 (n6 (takeR 40 l).2) then ((⟨n6 (takeR 40 l).2, pW (n6 (takeR 40 l).2) (nd4 (takeR 40 l).2).1.1 ks, (t7 (takeR 40 l).2).1.1, ByteArray.empty, ks⟩, true), c', l6) else ((w5, false), c', l6) :=
  (p_n hg.hc hfc hg.hb).trans (nr_k hg.h0 hg.h3 hg.h4)
theorem p_k (hfc : 240 ≤ f + c) (hx : KdR s f c l acc c' l') (ht : (takeR 32 l').1 = true) (hk : (m0 (f - 1) c' (takeR 32 l').2).1.2 = false) : m0 f c l = ((w5, false), (m0 (f - 1) c' (takeR 32 l').2).2) := by
  obtain ⟨g, hg, he⟩ := hx.eq
  have hl := qS ht
  rw [p_g hfc hx.go, he]
  cases g with
  | zero => omega
  | succ g =>
    rw [kr_t ht]
    split
    · next e =>
      split at e
      · next e' => rw [e'] at hk; cases hk
      · next e' => injection e with _ e; rw [e', ← e]
    · next e =>
      split at e
      · next e' => rw [e'] at hk; cases hk
      · next e' => injection e with e; cases e
theorem kr_f {g : Nat} (hg : l'.length ≤ g) (h : (takeR 32 l').1 = false) : d8 (m0 (f - 1)) g c' l' acc = (some acc, c', (takeR 32 l').2) := by
  cases g with
  | zero => rw [List.eq_nil_of_length_eq_zero (Nat.le_zero.1 hg)]; rfl
  | succ g =>
    rw [d8]
    split
    · next e => rw [e]
    · next e => rw [e] at h; cases h
theorem p_5 (hfc : 240 ≤ f + c) (hx : KdR s f c l acc c' l') (ht : (takeR 32 l').1 = false) (h : (takeR 41 (takeR 32 l').2).1 = false) : m0 f c l = ((w5, false), c', (takeR 41 (takeR 32 l').2).2) := by
  obtain ⟨g, hg, he⟩ := hx.eq
  rw [p_g hfc hx.go, he, kr_f hg ht]
  dsimp only
  split
  · next e => rw [e]
  · next e => rw [e] at h; cases h
theorem p_67 (hfc : 240 ≤ f + c) (hx : KdR s f c l acc c' l') (ht : (takeR 32 l').1 = false) (h : (takeR 41 (takeR 32 l').2).1 = true) : m0 f c l = if (acc.length : Int) = e8 (n6 (takeR 40 l).2) then ((⟨n6 (takeR 40 l).2, pW (n6 (takeR 40 l).2) (nd4 (takeR 40 l).2).1.1 acc, (t7 (takeR 40 l).2).1.1, ByteArray.empty, acc⟩, true), c', (takeR 41 (takeR 32 l').2).2) else ((w5, false), c', (takeR 41 (takeR 32 l').2).2) := by
  obtain ⟨g, hg, he⟩ := hx.eq
  rw [p_g hfc hx.go, he, kr_f hg ht]
  dsimp only
  split
  · next e => rw [e] at h; cases h
  · next e => rw [e]
theorem p_6 (hfc : 240 ≤ f + c) (hx : KdR s f c l acc c' l') (ht : (takeR 32 l').1 = false) (h : (takeR 41 (takeR 32 l').2).1 = true) (hn : ¬ (acc.length : Int) = e8 (n6 (takeR 40 l).2)) : m0 f c l = ((w5, false), c', (takeR 41 (takeR 32 l').2).2) := (p_67 hfc hx ht h).trans (if_neg hn)
theorem p_7 (hfc : 240 ≤ f + c) (hx : KdR s f c l acc c' l') (ht : (takeR 32 l').1 = false) (h : (takeR 41 (takeR 32 l').2).1 = true) (hn : (acc.length : Int) = e8 (n6 (takeR 40 l).2)) : m0 f c l = ((⟨n6 (takeR 40 l).2, pW (n6 (takeR 40 l).2) (nd4 (takeR 40 l).2).1.1 acc, (t7 (takeR 40 l).2).1.1, ByteArray.empty, acc⟩, true), c', (takeR 41 (takeR 32 l').2).2) := (p_67 hfc hx ht h).trans (if_pos hn)
/-! what is handed back -/
variable {o w n : Int} {nm : ByteArray} {b : Bool} {r : Bs} {m : Nat}
def RtR (f c : Nat) (s : ByteArray) (l : Bs) : AV → List Blk → Prop := (fun res B => ((m0 f c l).1.1.kids = [] ∧ res = .tup [mC (m0 f c l).1.1, .dat (.bool (m0 f c l).1.2)] ∧ B = [.box [.dat (.str s), .dat (.i (u1 s (m0 f c l).2.2)), .dat (.i ((m0 f c l).2.1 : Int))]]) ∨ ((m0 f c l).1.2 = true ∧ res = .tup [.agg [.dat (.i (m0 f c l).1.1.op), .dat (.i (m0 f c l).1.1.w), .dat (.i (m0 f c l).1.1.n), .dat (.str (m0 f c l).1.1.name), .row 1], .dat (.bool true)] ∧ B = [.box [.dat (.str s), .dat (.i (u1 s (m0 f c l).2.2)), .dat (.i ((m0 f c l).2.1 : Int))], .tree 25 .terms (m0 f c l).1.1.kids]))
theorem rt1 {t : V.Term} (h : m0 f c l = ((t, b), m, r)) (hk : t.kids = []) : RtR f c s l (AV.tup [.agg [.dat (.int .i64 t.op), .dat (.int .i64 t.w), .dat (.int .i64 t.n), .dat (.str t.name), .nils], .dat (.bool b)]) [.box [.dat (.str s), .dat (.int .i64 (u1 s r)), .dat (.int .i64 (m : Int))]] := by
  unfold RtR
  rw [h]
  exact .inl ⟨hk, rfl, rfl⟩
theorem rt0 (hc : c ≤ 240) (h : m0 f c l = ((w5, false), c + 1, r)) : RtR f c s l (AV.tup [.agg [.dat (.int .i64 0), .dat (.int .i64 0), .dat (.int .i64 0), .dat (.str ByteArray.empty), .nils], .dat (.bool false)]) [.box [.dat (.str s), .dat (.int .i64 (u1 s r)), .dat (.int .i64 (IntKind.i64.wrap ((c : Int) + 1)))]] := by
  rw [wc hc]; exact rt1 (t := w5) h rfl
theorem rtl (hc : c ≤ 240) {tk : Bs} (h : m0 f c l = (w7 tk, c + 1, r)) : RtR f c s l (AV.tup [.agg [.dat (.int .i64 (w7 tk).1.op), .dat (.int .i64 (w7 tk).1.w), .dat (.int .i64 (w7 tk).1.n), .dat (.str (w7 tk).1.name), .nils], .dat (.bool (w7 tk).2)]) [.box [.dat (.str s), .dat (.int .i64 (u1 s r)), .dat (.int .i64 (IntKind.i64.wrap ((c : Int) + 1)))]] := by
  rw [wc hc]; exact rt1 h (leafT_k tk)
theorem rt2 {ks : List V.Term} (h : m0 f c l = ((⟨o, w, n, nm, ks⟩, true), m, r)) : RtR f c s l (AV.tup [.agg [.dat (.int .i64 o), .dat (.int .i64 w), .dat (.int .i64 n), .dat (.str nm), .row (0 + 1)], .dat (.bool true)]) [.box [.dat (.str s), .dat (.int .i64 (u1 s r)), .dat (.int .i64 (m : Int))], .tree 25 .terms ks] := by
  unfold RtR
  rw [h]
  exact .inr ⟨rfl, rfl, rfl⟩
theorem bt24 {a b : Nat} (ha : a ≤ 1048576) (hb : b ≤ 1) : (a + b) * 64 ≤ 140737488355328 := by omega
theorem kr_l (hx : KdR s f c l acc c' l') : acc.length ≤ 1048576 := by have := hx.len; omega
theorem eta0 {t : V.Term} (h : t.kids = []) : (⟨t.op, t.w, t.n, t.name, []⟩ : V.Term) = t := by cases t; dsimp only at h; subst h; rfl
end
theorem gY (s : ByteArray) (f c : Nat) (l : Bs) (ih : IHr s f) (hr : SufR s l) (hc : c ≤ 240) (hfc : 240 ≤ f + c) : CallsG Tryz.prog 30 [.ptr 0 0] [.box [.dat (.str s), .dat (.i (u1 s l)), .dat (.i (c : Int))]] 1 (fun res B => ((m0 f c l).1.1.kids = [] ∧ res = .tup [mC (m0 f c l).1.1, .dat (.bool (m0 f c l).1.2)] ∧ B = [.box [.dat (.str s), .dat (.i (u1 s (m0 f c l).2.2)), .dat (.i ((m0 f c l).2.1 : Int))]]) ∨ ((m0 f c l).1.2 = true ∧ res = .tup [.agg [.dat (.i (m0 f c l).1.1.op), .dat (.i (m0 f c l).1.1.w), .dat (.i (m0 f c l).1.1.n), .dat (.str (m0 f c l).1.1.name), .row 1], .dat (.bool true)] ∧ B = [.box [.dat (.str s), .dat (.i (u1 s (m0 f c l).2.2)), .dat (.i ((m0 f c l).2.1 : Int))], .tree 25 .terms (m0 f c l).1.1.kids])) := by
  refine oG Tryz.func30 ⟨?_⟩
  repeat' (first | ((with_reducible refine fun (K1 : KT) hK => ?_); (with_reducible refine j5 ?_ ?_); exact rfl; conv => whnf) | ((with_reducible refine Alt.r ?_); conv => whnf) | ((with_reducible refine fun (K1 : KT) hK => ?_); conv => whnf) | ((with_reducible show K1 _ _); subst hK; conv => whnf) | (with_reducible exact rfl) | ((with_reducible refine a8 ?_); conv => whnf) | ((with_reducible refine m9 ?_); conv => whnf) | ((with_reducible refine f9 ?_); conv => whnf) | ((with_reducible refine d7 (fun h => ?_) (fun h => ?_)) <;> first | (with_reducible contradiction) | (subst h; conv => whnf) | (conv => whnf)) | ((with_reducible refine uA (fun h => ?_) (fun h => ?_)) <;> first | (with_reducible contradiction) | (subst h; conv => whnf) | (conv => whnf)) | ((with_reducible refine wF (fun h => ?_) (fun h => ?_)) <;> first | (with_reducible contradiction) | (subst h; conv => whnf) | (conv => whnf)) | ((with_reducible refine pE (fun h => ?_) (fun h => ?_)) <;> first | (with_reducible contradiction) | (subst h; conv => whnf) | (conv => whnf)) | ((with_reducible refine e9 (fun h => ?_) (fun h => ?_)) <;> first | (exact u2 h asmR) | (exact u2 asmR h) | (conv => whnf)) | ((with_reducible refine lD (fun h => ?_) (fun h => ?_)) <;> first | (exact u2 h asmR) | (exact u2 asmR h) | (conv => whnf)) | ((with_reducible refine vA (fun h => ?_) (fun h => ?_)) <;> first | (exact u2 h asmR) | (exact u2 asmR h) | (conv => whnf)) | (refine ⟨(rfl : d4 _ = true), rfl, ?_⟩; conv => whnf) | (with_reducible refine fE ?_ ?_) | refine p3 ⟨?_⟩ ⟨?_⟩ | (refine Exists.intro ({x : List V.Term × Nat × Bs // KdR s f c l x.1 x.2.1 x.2.2}) (Exists.intro (fun ⟨⟨acc, c', l'⟩, hx⟩ => x5 Tryz.f30.ntmps [(0, .ptr 900000 0), (2, .ptr 2 0), (4, .ptr 4 0)] [(900000, .box [.dat (.str s), .dat (.i (u1 s l')), .dat (.i (c' : Int))]), (2, .box [.dat (.i 0), .dat (.i 0), .dat (.i 0), .dat (.str ⟨#[]⟩), .nils]), (4, .box [.dat (.i (n6 (takeR 40 l).2)), .dat (.i (nd4 (takeR 40 l).2).1.1), .dat (.i (t7 (takeR 40 l).2).1.1), .dat (.str ⟨#[]⟩), .row 84]), (84, .tree 25 .terms acc)]) (Exists.intro (fun ⟨⟨acc, c', l'⟩, hx⟩ => l'.length) (Exists.intro ⟨⟨[], c + 1, (nd4 (takeR 40 l).2).2⟩, ?_⟩ (And.intro (SubP.sub (σ := [(900000, some 900000), (2, some 2), (4, some 4), (84, none)]) ⟨⟨rfl, rfl, rfl⟩, ⟨⟨rfl, rfl⟩, ⟨rfl, rfl⟩, ⟨rfl, rfl⟩, trivial⟩, ⟨⟨g0 ?_, g0 ?_, g0 ?_, trivial⟩, ⟨g0 ?_, g0 ?_, g0 ?_, g0 ?_, trivial, trivial⟩, ⟨g0 ?_, g0 ?_, g0 ?_, g0 ?_, rfl, trivial⟩, ?_, trivial⟩⟩) (fun ⟨⟨acc, c', l'⟩, hx⟩ => ?_))))); rotate_right; conv => whnf) | (refine Exists.intro (⟨⟨?_, ?_, ?_⟩, ?_⟩ : {x : List V.Term × Nat × Bs // KdR s f c l x.1 x.2.1 x.2.2}) (And.intro ?_ (SubP.sub (σ := [(900000, some 900000), (2, some 2), (4, some 4), (84, some 84)]) ⟨⟨rfl, rfl, rfl⟩, ⟨⟨rfl, rfl⟩, ⟨rfl, rfl⟩, ⟨rfl, rfl⟩, trivial⟩, ⟨⟨g0 ?_, g0 ?_, g0 ?_, trivial⟩, ⟨g0 ?_, g0 ?_, g0 ?_, g0 ?_, trivial, trivial⟩, ⟨g0 ?_, g0 ?_, g0 ?_, g0 ?_, rfl, trivial⟩, ⟨rfl, ?_⟩, trivial⟩⟩))) | ((with_reducible refine j3 (g := 64) ?_); refine ⟨_, _, yX (hr := ?_) .., zV ?_⟩; rotate_right; conv => whnf) | ((with_reducible refine j3 (g := 64) ?_); refine ⟨_, _, qdm (hr := ?_) .., zV ?_⟩; rotate_right; conv => whnf) | ((with_reducible refine j3 (g := 64) ?_); refine ⟨_, _, qdl (hr := ?_) .., zV ?_⟩; rotate_right; conv => whnf) | ((with_reducible refine j3 (g := 65) ?_); refine ⟨_, _, i_leaf (hr := ?_) .., zV ?_⟩; rotate_right; conv => whnf) | ((with_reducible first | refine s0 (g := 66) ?_ | show Exists _); refine ⟨_, qdr .., rfl, ?_⟩; rotate_right; conv => whnf) | ((with_reducible refine j3 (g := 67) ?_); refine ⟨_, _, lP (hr := ?_) .., zV ?_⟩; rotate_right; conv => whnf) | ((with_reducible refine j3 (g := 68) ?_); refine ⟨_, _, qds (hr := ?_) .., zV ?_⟩; rotate_right; conv => whnf) | ((with_reducible refine j3 (g := 30) ?_); refine ⟨_, _, ih_r (ih := asmR) (hf := ?_) (hr := ?_) (hc := ?_) (hfc := ?_) .., fun res B hRB => ?_⟩; rotate_right; obtain (⟨hk, rfl, rfl⟩ | ⟨hk, rfl, rfl⟩) := hRB <;> conv => whnf) | ((with_reducible first | refine s0 (g := 69) ?_ | show Exists _); refine ⟨_, aY .., rfl, ?_⟩; rotate_right; conv => whnf) | ((with_reducible first | refine s0 (g := 70) ?_ | show Exists _); refine ⟨_, qdo (hk := ?_) (h1 := ?_) (h2 := ?_) .., rfl, ?_⟩; rotate_right; conv => whnf) | ((with_reducible show d3 _ _ _ _ _ _); conv => whnf) | (intro h; conv => whnf))
  all_goals repeat clear hK K1
  all_goals first | exact Bool.noConfusion (show true = false from asmR) | ((with_reducible show _ ∨ _); first | exact rt0 hc (p_a hc asmR) | exact rtl hc (p_b hc asmR hfc asmR) | exact rt0 hc (p_0 (fC hc asmR) hfc asmR asmR) | exact rt0 hc (p_3 (fC hc asmR) hfc asmR asmR (nm1 asmR) asmR) | exact rt0 hc (p_4 (fC hc asmR) hfc asmR asmR (nm1 asmR) asmR asmR) | exact rt0 hc (p_4 (fC hc asmR) hfc asmR asmR (nm2 asmR asmR) rfl asmR) | exact rt0 hc (p_4 (fC hc asmR) hfc asmR asmR (nm3 asmR asmR) rfl asmR) | exact rt1 (t := w5) (p_k hfc hx asmR asmR) rfl | exact rt1 (t := w5) (p_5 hfc hx asmR asmR) rfl | exact rt1 (t := w5) (p_6 hfc hx asmR asmR asmR) rfl | exact rt2 (p_7 hfc hx asmR asmR asmR)) | ((with_reducible show KdR _ _ _ _ _ _ _); first | exact KdR.zero hr (go_R (fC hc asmR) asmR asmR (nm1 asmR) asmR asmR) | exact KdR.zero hr (go_R (fC hc asmR) asmR asmR (nm2 asmR asmR) rfl asmR) | exact KdR.zero hr (go_R (fC hc asmR) asmR asmR (nm3 asmR asmR) rfl asmR) | exact KdR.zero hr (go_R (fC hc asmR) asmR asmR (nm4 asmR asmR asmR) rfl rfl) | (have q := (hx.step asmR asmR).1; rw [← eta0 hk] at q; exact q) | (have q := (hx.step asmR hk).1; rw [← V.Term.eta (m0 _ _ _).1.1] at q; exact q)) | ((with_reducible show SufR _ _); first | exact hr | exact hr.take | exact hr.take.tok | exact hr.take.tok.num | exact hx.suf | exact hx.suf.take) | (with_reducible assumption) | ((with_reducible show Dat.int _ _ = Dat.int _ _); first | exact rfl | exact congrArg (Dat.int .i64) (wc hc).symm | exact congrArg (fun x => Dat.int .i64 x.1.1) (nm1 asmR).e3 | exact congrArg (fun x => Dat.int .i64 x.1.1) (nm1 asmR).e4 | exact congrArg (fun x => Dat.int .i64 (u1 s x.2)) (nm1 asmR).e4 | exact congrArg (fun x => Dat.int .i64 x.1.1) (nm2 asmR asmR).e3 | exact congrArg (fun x => Dat.int .i64 x.1.1) (nm2 asmR asmR).e4 | exact congrArg (fun x => Dat.int .i64 (u1 s x.2)) (nm2 asmR asmR).e4 | exact congrArg (fun x => Dat.int .i64 x.1.1) (nm3 asmR asmR).e3 | exact congrArg (fun x => Dat.int .i64 x.1.1) (nm3 asmR asmR).e4 | exact congrArg (fun x => Dat.int .i64 (u1 s x.2)) (nm3 asmR asmR).e4 | exact congrArg (fun x => Dat.int .i64 x.1.1) (nm4 asmR asmR asmR).e3 | exact congrArg (fun x => Dat.int .i64 x.1.1) (nm4 asmR asmR asmR).e4 | exact congrArg (fun x => Dat.int .i64 (u1 s x.2)) (nm4 asmR asmR asmR).e4) | ((with_reducible show (_ : Nat) < _); first | exact (hx.step asmR asmR).2 | exact (hx.step asmR hk).2) | exact bdM (Nat.le_trans (kr_l hx) (by decide)) (show 1 ≤ 1048577 by decide) | exact bt24 (kr_l hx) (Nat.le_refl 1) | ((with_reducible show (_ : Int) ≤ _); have q := dG (u0 (takeR 40 l).2).1; have q2 := hx.go.h0; show _ ≤ _; unfold n6 at *; omega) | exact hx.cnt.2 | (have q := hx.cnt; dsimp only at q; omega) | (have q := hx.cnt; have q2 := hx.go.hc; dsimp only at q; omega) | exact rfl | skip
theorem i_tm (s : ByteArray) : ∀ f : Nat, IHr s f
  | 0 => ⟨fun h => absurd h (by decide)⟩
  | f + 1 => ⟨fun _ c l hr hc hfc => gY s f c l (i_tm s f) hr hc hfc⟩
theorem i_term (s : ByteArray) (hs : s.size ≤ 1048576) : CallsG Tryz.prog 30 [.ptr 0 0] [.box [.dat (.str s), .dat (.i 0), .dat (.i 0)]] 1
    (fun res B => ((m0 240 0 s.data.toList).1.1.kids = [] ∧ res = .tup [mC (m0 240 0 s.data.toList).1.1, .dat (.bool (m0 240 0 s.data.toList).1.2)] ∧ B = [.box [.dat (.str s), .dat (.i (u1 s (m0 240 0 s.data.toList).2.2)), .dat (.i ((m0 240 0 s.data.toList).2.1 : Int))]]) ∨ ((m0 240 0 s.data.toList).1.2 = true ∧ res = .tup [.agg [.dat (.i (m0 240 0 s.data.toList).1.1.op), .dat (.i (m0 240 0 s.data.toList).1.1.w), .dat (.i (m0 240 0 s.data.toList).1.1.n), .dat (.str (m0 240 0 s.data.toList).1.1.name), .row 1], .dat (.bool true)] ∧ B = [.box [.dat (.str s), .dat (.i (u1 s (m0 240 0 s.data.toList).2.2)), .dat (.i ((m0 240 0 s.data.toList).2.1 : Int))], .tree 25 .terms (m0 240 0 s.data.toList).1.1.kids])) := by
  have hr : SufR s s.data.toList := ⟨List.suffix_refl _, hs⟩
  have e : u1 s s.data.toList = 0 := by unfold u1; rw [show s.data.toList.length = s.size from rfl]; omega
  have h := gY s 240 0 s.data.toList (i_tm s 240) hr (by decide) (Nat.le_refl _)
  rwa [e] at h
end Vg
