/- Numbers and lists of numbers are printed: contracts. Condition: numbers are small, lists are short. -/
import Derived.Test.YtjlffejifadkiaaGreatDoorBase
import Derived.Test.YtjlffejifadkiaaGreatDoorRet
import Derived.Test.YtjlffejifadkiaaGreatDoorPoolS
import Derived.Test.YtjlffejifadkiaaGreatDoorRg
namespace Vg
open Go Go.Proofs
set_option maxRecDepth 100000
set_option maxHeartbeats 40000000
def qbs (n : Int) : ByteArray := ⟨(Lib.itoa n).toArray⟩
theorem v_ItoaP (n : Int) (h0 : -9223372036854775808 ≤ n) (h1 : n ≤ 9223372036854775807) : CallsV Tryz.prog 96 [.dat (.i n)] (.dat (.str (qbs n))) :=
  itoaV Tryz.laysM171 rfl ⟨_, Tryz.func96, rfl, rfl⟩ (by kernel_rfl) (List.mem_singleton.2 rfl) n h0 h1
theorem i_FmtP (n : Int) (h0 : 0 ≤ n) (h1 : n < 1000000) : CallsV Tryz.prog 55 [.dat (.i n)] (.dat (.str (qbs n))) := by
  refine oV Tryz.func55 ⟨?_⟩
  repeat' (first | ((with_reducible refine fun (K1 : KT) hK => ?_); refine stK ⟨?_⟩) | ((with_reducible show K1 _ _); subst hK; conv => whnf) | (with_reducible exact rfl) | refine st0 ⟨?_⟩ | ((with_reducible refine SplS.mk (fun h => ?_) (fun h => ?_)) <;> first | exact ctM | (subst h; conv => whnf) | (conv => whnf)) | ((with_reducible first | refine pcI (g := 96) ?_ | show Exists _); refine ⟨_, v_ItoaP (h0 := ?_) (h1 := ?_) .., rfl, ?_⟩; rotate_right; conv => whnf) | (intro h; conv => whnf))
  all_goals repeat clear hK K1
  all_goals first | omega | rfl | skip
/-! ### numerals are short -/
theorem qpg : ∀ (k u : Nat), u < 10 ^ (k + 1) → (Lib.decDigits u).length ≤ k + 1
  | 0, u, h => by rw [Lib.decDigits, dif_pos (by simpa using h)]; simp
  | k + 1, u, h => by
    rw [Lib.decDigits]
    split
    · simp
    · have := qpg k (u / 10) (by rw [Nat.pow_succ] at h; omega)
      rw [List.length_append]; simp; omega
structure FmtI (n0 n : Int) (l : List UInt8) : Prop where
  dig : Lib.decDigits n.toNat ++ l = Lib.decDigits n0.toNat
  len : l.length + 1 ≤ (Lib.decDigits n0.toNat).length
  le : n ≤ n0
  nn : 0 ≤ n
theorem dig_pos (u : Nat) : 1 ≤ (Lib.decDigits u).length := by rw [Lib.decDigits]; split <;> simp
theorem fmtI_0 {n : Int} (h : 0 ≤ n) : FmtI n n [] := ⟨by simp, by simpa using dig_pos n.toNat, Int.le_refl _, h⟩
theorem fmtI_s {n0 n : Int} {l : List UInt8} (h : FmtI n0 n l) (hn : n > 9) : FmtI n0 (n / 10) (UInt8.ofNat (48 + (n % 10).toNat) :: l) := by
  have h10 : (n / 10).toNat = n.toNat / 10 := by omega
  have hm : (n % 10).toNat = n.toNat % 10 := by omega
  have e : Lib.decDigits (n / 10).toNat ++ UInt8.ofNat (48 + (n % 10).toNat) :: l = Lib.decDigits n0.toNat := by
    rw [← h.dig, h10, hm]
    conv => rhs; rw [Lib.decDigits, dif_neg omG]
    simp
  refine ⟨e, ?_, by have := h.le; omega, by omega⟩
  rw [← e, List.length_append]
  have := dig_pos (n / 10).toNat
  simp
  omega
theorem str_cons (x : UInt8) (l : List UInt8) : (⟨(x :: l).toArray⟩ : ByteArray) = ⟨#[x]⟩ ++ ⟨l.toArray⟩ := by
  apply ByteArray.ext
  rw [ByteArray.data_append]
  apply Array.ext'
  simp
theorem u8_dig {m : Nat} (h : m < 10) : strOfNums [IntKind.u8.wrap (IntKind.i64.wrap (48 + (m : Int)))] = ⟨#[UInt8.ofNat (48 + m)]⟩ := by
  have e1 : IntKind.i64.wrap (48 + (m : Int)) = ((48 + m : Nat) : Int) := by rw [qac omG omG]; omega
  have e2 : IntKind.u8.wrap ((48 + m : Nat) : Int) = ((48 + m : Nat) : Int) := by
    simp only [IntKind.wrap]
    have q1 : (2 : Int) ^ IntKind.u8.bits = 256 := rfl
    have q3 : IntKind.u8.signed = false := rfl
    rw [q1, q3]
    simp
    omega
  rw [e1, e2]
  show (⟨#[UInt8.ofNat ((48 + m : Nat) : Int).toNat]⟩ : ByteArray) = _
  rw [Int.toNat_natCast]
theorem fmt_s {n0 n : Int} {l : List UInt8} (h : FmtI n0 n l) : Dat.str ⟨(UInt8.ofNat (48 + (n % 10).toNat) :: l).toArray⟩ = Dat.str (strOfNums [IntKind.u8.wrap (IntKind.i64.wrap (48 + n.tmod 10))] ++ ⟨l.toArray⟩) := by
  have e : n.tmod 10 = (((n % 10).toNat : Nat) : Int) := by rw [Int.tmod_eq_emod_of_nonneg h.nn]; omega
  rw [e, u8_dig omG, ← str_cons]
theorem fmt_q {n0 n : Int} {l : List UInt8} (h : FmtI n0 n l) (h1 : n0 < 1000000) : Dat.i (n / 10) = Dat.int .i64 (IntKind.i64.wrap (n.tdiv 10)) := by
  have e : n.tdiv 10 = n / 10 := Int.tdiv_eq_ediv_of_nonneg h.nn
  have := h.le; have := h.nn
  rw [e, qac omG omG]
theorem fmt_end {n0 n : Int} {l : List UInt8} (h : FmtI n0 n l) (hn : ¬ n > 9) : Dat.str (qbs n0) = Dat.str (strOfNums [IntKind.u8.wrap (IntKind.i64.wrap (48 + n))] ++ ⟨l.toArray⟩) := by
  have h0 := h.nn
  have h1 := h.le
  have hn' : n.toNat < 10 := by omega
  have en : n = ((n.toNat : Nat) : Int) := by omega
  rw [en, u8_dig hn', ← str_cons]
  have e := h.dig
  rw [Lib.decDigits, dif_pos hn'] at e
  have : Lib.itoa n0 = UInt8.ofNat (48 + n.toNat) :: l := by
    unfold Lib.itoa
    rw [if_neg omG, ← e]; rfl
  unfold qbs
  rw [this]
theorem fmt_len {n0 n : Int} {l : List UInt8} (h : FmtI n0 n l) (h1 : n0 < 1000000) : l.length ≤ 6 := by
  have := h.nn; have := h.le
  have := qpg 5 n0.toNat omG
  have := h.len
  omega
theorem fmt_mu {n0 n : Int} {l : List UInt8} (_h : FmtI n0 n l) (hn : n > 9) : (n / 10).toNat < n.toNat := by omega
theorem fmt_b {l : List UInt8} {x : ByteArray} (h : l.length ≤ 6) (hx : x.size = 1 := by rfl) : x.size + (⟨l.toArray⟩ : ByteArray).size ≤ maxLen := by
  have e : (⟨l.toArray⟩ : ByteArray).size = l.length := List.size_toArray ..
  have hm : maxLen = 9223372036854775807 := rfl
  omega
theorem s_FmtP (n0 : Int) (h0 : 0 ≤ n0) (h1 : n0 < 1000000) : CallsV Tryz.prog 88 [.dat (.i n0)] (.dat (.str (qbs n0))) := by
  refine oV Tryz.func88 ⟨?_⟩
  repeat' (first | ((with_reducible refine fun (K1 : KT) hK => ?_); refine stK ⟨?_⟩) | ((with_reducible show K1 _ _); subst hK; conv => whnf) | (with_reducible exact rfl) | refine st0 ⟨?_⟩ | ((with_reducible refine SplS.mk (fun h => ?_) (fun h => ?_)) <;> first | exact ctM | (subst h; conv => whnf) | (conv => whnf)) | refine stB ⟨?_⟩ ⟨?_⟩ | (refine Exists.intro ({x : Int × List UInt8 // FmtI n0 x.1 x.2}) (Exists.intro (fun ⟨⟨n, l⟩, hI⟩ => mkS Tryz.f88.ntmps [(0, .dat (.i n)), (3, .dat (.str ⟨l.toArray⟩))] []) (Exists.intro (fun ⟨⟨n, l⟩, hI⟩ => n.toNat) (Exists.intro ⟨⟨n0, []⟩, fmtI_0 h0⟩ (And.intro (SubP.sub (σ := []) ⟨⟨rfl, rfl, rfl⟩, ⟨(qab ?_), (qab ?_), trivial⟩, trivial⟩) (fun ⟨⟨n, l⟩, hI⟩ => ?_))))); rotate_right; conv => whnf) | (refine Exists.intro (⟨⟨n / 10, UInt8.ofNat (48 + (n % 10).toNat) :: l⟩, ?_⟩ : {x : Int × List UInt8 // FmtI n0 x.1 x.2}) (And.intro ?_ (SubP.sub (σ := []) ⟨⟨rfl, rfl, rfl⟩, ⟨(qab ?_), (qab ?_), trivial⟩, trivial⟩))) | (intro h; conv => whnf))
  all_goals repeat clear hK K1
  all_goals first | (with_reducible assumption) | (with_reducible rfl) | (exfalso; omega) | exact fmtI_s hI asmR | exact fmt_s hI | exact fmt_q hI h1 | exact fmt_end hI asmR | exact (fmt_end hI asmR).symm | exact fmt_b (fmt_len hI h1) | exact fmt_mu hI asmR | rfl | omega | (dsimp only; omega) | skip
/-! ### texts, one behind the other -/
def qcd (l : List ByteArray) (b : ByteArray) : Nat → ByteArray
  | 0 => ⟨#[]⟩
  | k + 1 => (if k = 0 then qcd l b k else qcd l b k ++ b) ++ l.getD k ⟨#[]⟩
theorem qe9 {l : List ByteArray} {b : ByteArray} (hl : ∀ x ∈ l, x.size ≤ 100) (hb : b.size ≤ 1) : ∀ k, k ≤ l.length → (qcd l b k).size ≤ 101 * k
  | 0, _ => by show 0 ≤ _; omega
  | k + 1, h => by
    have ih := qe9 hl hb k omG
    have hx : (l.getD k ⟨#[]⟩).size ≤ 100 := by
      rw [List.getD_eq_getElem?_getD, List.getElem?_eq_getElem (show k < l.length by omega)]; exact hl _ (List.getElem_mem _)
    rw [qcd, ByteArray.size_append]
    split
    · omega
    · rw [ByteArray.size_append]; omega
theorem join_0 {l : List ByteArray} {b : ByteArray} {k : Nat} (h : ¬ (k : Int) > 0) : Dat.str (qcd l b (k + 1)) = Dat.str (qcd l b k ++ l.getD (k : Int).toNat K.strs.dflt) := by
  rw [qcd, if_pos omG, Int.toNat_natCast]; rfl
theorem join_s {l : List ByteArray} {b : ByteArray} {k : Nat} (h : (k : Int) > 0) : Dat.str (qcd l b (k + 1)) = Dat.str (qcd l b k ++ b ++ l.getD (k : Int).toNat K.strs.dflt) := by
  rw [qcd, if_neg omG, Int.toNat_natCast]; rfl
theorem join_x {l : List ByteArray} (hs : ∀ x ∈ l, x.size ≤ 100) {k : Nat} (h : (k : Int) < l.length) : (l.getD (k : Int).toNat K.strs.dflt).size ≤ 100 := by
  rw [Int.toNat_natCast, List.getD_eq_getElem?_getD, List.getElem?_eq_getElem (show k < l.length by omega)]; exact hs _ (List.getElem_mem _)
theorem join_e {l : List ByteArray} {b : ByteArray} {k : Nat} (hk : k ≤ l.length) (h : ¬ (k : Int) < l.length) : Dat.str (qcd l b l.length) = Dat.str (qcd l b k) := by rw [show k = l.length from by omega]
theorem qfx (l : List ByteArray) (b : ByteArray) : ∀ k, k ≤ l.length → (qcd l b k).data.toList = Lib.join ((l.take k).map (·.data.toList)) b.data.toList
  | 0, _ => rfl
  | k + 1, h => by
    have ih := qfx l b k omG
    have hk : k < l.length := by omega
    have e : l.getD k ⟨#[]⟩ = l[k] := by rw [List.getD_eq_getElem?_getD, List.getElem?_eq_getElem hk]; rfl
    rw [qcd, e, List.take_succ_eq_append_getElem hk, List.map_append, List.map_cons, List.map_nil]
    by_cases c : k = 0
    · subst c
      rw [if_pos rfl, ByteArray.data_append, Array.toList_append, ih]
      simp [Lib.join_one, Lib.join_nil]
    · rw [if_neg c, ByteArray.data_append, Array.toList_append, ByteArray.data_append, Array.toList_append, ih]
      obtain ⟨x, r, hx⟩ : ∃ x r, (l.take k).map (·.data.toList) = x :: r := by
        cases hq : (l.take k).map (·.data.toList) with
        | nil =>
          have := congrArg List.length hq
          rw [List.length_map, List.length_take, List.length_nil] at this
          omega
        | cons x r => exact ⟨x, r, rfl⟩
      rw [hx, List.cons_append, Lib.join_cons, Lib.join_cons]
      simp [Lib.joinTail, List.append_assoc]
theorem joinL_eq (l : List ByteArray) (b : ByteArray) : joinL l b = qcd l b l.length := by
  have h := qfx l b l.length (Nat.le_refl _)
  rw [List.take_length] at h
  unfold joinL
  rw [← h]
theorem s_JoinP (l : List ByteArray) (b : ByteArray) (hl : l.length ≤ 1000) (hs : ∀ x ∈ l, x.size ≤ 100) (hb : b.size ≤ 1) : CallsV Tryz.prog 89 [.dat (.seq .strs l), .dat (.str b)] (.dat (.str (qcd l b l.length))) := by
  refine oV Tryz.func89 ⟨?_⟩
  repeat' (first | ((with_reducible refine fun (K1 : KT) hK => ?_); refine stK ⟨?_⟩) | ((with_reducible show K1 _ _); subst hK; conv => whnf) | (with_reducible exact rfl) | refine st0 ⟨?_⟩ | ((with_reducible refine SplS.mk (fun h => ?_) (fun h => ?_)) <;> first | exact ctM | (subst h; conv => whnf) | (conv => whnf)) | refine stB ⟨?_⟩ ⟨?_⟩ | (refine Exists.intro ({k : Nat // k ≤ l.length}) (Exists.intro (fun ⟨k, hk⟩ => mkS Tryz.f89.ntmps [(1, .dat (.str b)), (5, .dat (.str (qcd l b k))), (8, .dat (.seq .strs l)), (9, .dat (.i l.length)), (10, .dat (.i k))] []) (Exists.intro (fun ⟨k, hk⟩ => l.length - k) (Exists.intro ⟨0, Nat.zero_le _⟩ (And.intro (SubP.sub (σ := []) ⟨⟨rfl, rfl, rfl⟩, ⟨(qab ?_), (qab ?_), (qab ?_), (qab ?_), (qab ?_), trivial⟩, trivial⟩) (fun ⟨k, hk⟩ => ?_))))); rotate_right; conv => whnf) | (refine Exists.intro (⟨k + 1, ?_⟩ : {k : Nat // k ≤ l.length}) (And.intro ?_ (SubP.sub (σ := []) ⟨⟨rfl, rfl, rfl⟩, ⟨(qab ?_), (qab ?_), (qab ?_), (qab ?_), (qab ?_), trivial⟩, trivial⟩))) | (intro h; conv => whnf))
  all_goals repeat clear hK K1
  all_goals first | (with_reducible assumption) | (with_reducible rfl) | exact join_0 asmR | exact join_s asmR | exact join_e hk asmR | exact (join_e hk asmR).symm | (have q := qe9 hs hb k hk; have hm : maxLen = 9223372036854775807 := rfl; have q2 := join_x hs (k := k) asmR; omega) | (have q := qe9 hs hb k hk; have hm : maxLen = 9223372036854775807 := rfl; have q2 := join_x hs (k := k) asmR; rw [ByteArray.size_append]; omega) | (have q := qe9 hs hb k hk; have hm : maxLen = 9223372036854775807 := rfl; omega) | exact congrArg (Dat.int .i64) (qac omG omG).symm | exact (rfl : Dat.i ((0 : Nat) : Int) = Dat.int .i64 0) | omega | (dsimp only; omega) | rfl | skip
end Vg

namespace Vg
open Go Go.Proofs
def qgk (l : List Int) : Bool := l.all fun n => inP n 0 999999
def fmtI (l : List Int) : ByteArray := qcd (l.map qbs) ⟨#[32]⟩ (l.map qbs).length
theorem itoa_6 {n : Int} (h0 : 0 ≤ n) (h1 : n < 1000000) : (qbs n).size ≤ 6 := by
  show (Lib.itoa n).toArray.size ≤ 6
  unfold Lib.itoa
  rw [if_neg omG]
  simpa using qpg 5 n.toNat omG
theorem qls {l : List Int} {k : Nat} (h : qgk l = true) (hk : (k : Int) < l.length) : 0 ≤ l.getD (k : Int).toNat K.ints.dflt ∧ l.getD (k : Int).toNat K.ints.dflt < 1000000 := by
  have hk' : k < l.length := by omega
  have q := List.all_eq_true.1 h (l[k]) (List.getElem_mem hk')
  have e : l.getD (k : Int).toNat K.ints.dflt = l[k] := by rw [Int.toNat_natCast, List.getD_eq_getElem?_getD, List.getElem?_eq_getElem hk']; rfl
  rw [e]
  simp [inP] at q
  omega
theorem nums_sz {l : List Int} (h : qgk l = true) : ∀ x ∈ l.map qbs, x.size ≤ 6 := by
  intro x hx
  obtain ⟨n, hn, rfl⟩ := List.mem_map.1 hx
  have q := List.all_eq_true.1 h n hn
  simp [inP] at q
  exact itoa_6 omG omG
theorem qlp {l : List Int} (h : qgk l = true) : ∀ x ∈ l.map qbs, x.size ≤ 100 := fun x hx => Nat.le_trans (nums_sz h x hx) (by decide)
theorem turns_nums {l : List Int} (h : qbx l = true) : qgk l = true := by
  unfold qgk
  rw [List.all_eq_true]
  intro x hx
  have q := List.all_eq_true.1 h x hx
  rw [decide_eq_true_eq] at q
  rcases q with rfl | rfl <;> decide
theorem map_getD {l : List Int} {k : Nat} (h : (k : Int) < l.length) : (l.map qbs).getD k K.strs.dflt = qbs (l.getD (k : Int).toNat K.ints.dflt) := by
  have h' : k < l.length := by omega
  rw [Int.toNat_natCast, List.getD_eq_getElem?_getD, List.getElem?_map, List.getElem?_eq_getElem h', List.getD_eq_getElem?_getD, List.getElem?_eq_getElem h']; rfl
theorem map_set {l : List Int} {k : Nat} (h : (k : Int) < l.length) : ((l.map qbs).take k ++ List.replicate ((l.map qbs).length - k) ByteArray.empty).set (k : Int).toNat (qbs (l.getD (k : Int).toNat K.ints.dflt)) = (l.map qbs).take (k + 1) ++ List.replicate ((l.map qbs).length - (k + 1)) ByteArray.empty := by
  rw [← map_getD h, Int.toNat_natCast]
  exact qip K.strs.dflt ByteArray.empty (by rw [List.length_map]; exact h)
theorem map_end {l : List Int} {k : Nat} (h : ¬ (k : Int) < l.length) : (l.map qbs).take k ++ List.replicate ((l.map qbs).length - k) ByteArray.empty = l.map qbs := qgb (by rw [List.length_map]; exact h)
theorem map_len {l : List Int} {k : Nat} (h : k ≤ l.length) : ((l.map qbs).take k ++ List.replicate ((l.map qbs).length - k) ByteArray.empty).length = l.length := by
  rw [List.length_append, List.length_take, List.length_replicate, List.length_map]; omega
theorem qif {l : List Int} (h : qgk l = true) : (fmtI l).size ≤ 101 * l.length := by
  have := qe9 (qlp h) (b := ⟨#[32]⟩) (by decide) (l.map qbs).length (Nat.le_refl _)
  rw [List.length_map] at this
  unfold fmtI
  rwa [List.length_map]
def qhv (l : List (List Int)) : Nat → ByteArray
  | 0 => ⟨#[]⟩
  | k + 1 => qhv l k ++ (⟨#[124]⟩ ++ fmtI (l.getD k K.intss.dflt))
def qj0 (l : List (List Int)) : ByteArray := qhv l l.length
structure JbsOk (l : List (List Int)) : Prop where
  len : l.length ≤ 64
  each : ∀ j, j ∈ l → qgk j = true ∧ j.length ≤ 400
theorem qi5 {l : List (List Int)} {k : Nat} (h : JbsOk l) (hk : (k : Int) < l.length) : qgk (l.getD (k : Int).toNat K.intss.dflt) = true ∧ (l.getD (k : Int).toNat K.intss.dflt).length ≤ 400 := by
  have hk' : k < l.length := by omega
  rw [Int.toNat_natCast, List.getD_eq_getElem?_getD, List.getElem?_eq_getElem hk']
  exact h.each _ (List.getElem_mem hk')
theorem qia {l : List (List Int)} (h : JbsOk l) : ∀ k, k ≤ l.length → (qhv l k).size ≤ 40401 * k
  | 0, _ => by show 0 ≤ _; omega
  | k + 1, hk => by
    have ih := qia h k omG
    have q := qi5 h (k := k) omG
    rw [Int.toNat_natCast] at q
    have q2 := qif q.1
    have e : (ByteArray.mk #[124]).size = 1 := rfl
    rw [qhv, ByteArray.size_append, ByteArray.size_append, e]
    omega
theorem qd9 {l : List (List Int)} (h : JbsOk l) : (qj0 l).size ≤ 2585664 := by
  have := qia h l.length (Nat.le_refl _)
  have := h.len
  unfold qj0
  omega
structure PfOk (f : Int) (o e : List (List Int)) (b : List Bool) (d : List (List Int)) : Prop where
  hf : 0 ≤ f ∧ f ≤ 400
  hb : 1 ≤ b.length ∧ b.length ≤ 4
  he : e.length = b.length
  jo : JbsOk o
  jh : JbsOk (qa6 e b e.length)
  jd : JbsOk d
noncomputable def qop (p : V.Prog) (f : Int) (o e : List (List Int)) (b : List Bool) (d : List (List Int)) : ByteArray :=
  if qjv p f o e b d = true then qbs f ++ ⟨#[32]⟩ ++ qbs b.length ++ qj0 o ++ ⟨#[59]⟩ ++ qj0 (qa6 e b e.length) ++ ⟨#[59]⟩ ++ qj0 d else ⟨#[]⟩
theorem poolS_n {p : V.Prog} {f : Int} {o e : List (List Int)} {b : List Bool} {d : List (List Int)} (h : qjv p f o e b d = false) : qop p f o e b d = ⟨#[]⟩ := by unfold qop; rw [if_neg (by rw [h]; decide)]
theorem poolS_y {p : V.Prog} {f : Int} {o e : List (List Int)} {b : List Bool} {d : List (List Int)} (h : qjv p f o e b d = true) : qop p f o e b d = qbs f ++ ⟨#[32]⟩ ++ qbs b.length ++ qj0 o ++ ⟨#[59]⟩ ++ qj0 (qa6 e b e.length) ++ ⟨#[59]⟩ ++ qj0 d := if_pos h
theorem fmt_2 (f n : Int) : fmtI [f, n] = qbs f ++ ⟨#[32]⟩ ++ qbs n := by
  show (if (1 : Nat) = 0 then _ else ((if (0 : Nat) = 0 then (⟨#[]⟩ : ByteArray) else _) ++ qbs f) ++ ⟨#[32]⟩) ++ qbs n = _
  rw [if_neg (by decide), if_pos rfl, show (⟨#[]⟩ : ByteArray) ++ qbs f = qbs f from ByteArray.ext (by rw [ByteArray.data_append]; exact Array.empty_append)]
theorem qjm (h : List (List Int)) (b : List Bool) : ∀ n, (qa6 h b n).length ≤ n
  | 0 => Nat.le_refl _
  | n + 1 => by
    have := qjm h b n
    rw [qa6, List.length_append]
    split
    · simp; omega
    · simp; omega
end Vg

namespace Vg
open Go Go.Proofs
theorem pw_le (p : V.Prog) (tr : List Int) : ∀ (f : Nat) (s : V.Path) (u : Nat), (pwF p tr f s u).2 ≤ u + f
  | 0, s, u => by rw [pwF]; exact Nat.le_refl _
  | f + 1, s, u => by
    rw [pwF]
    by_cases c : (qa7 p s).length = 0 ∨ ((qa7 p s).length = 2 ∧ u = tr.length)
    · rw [if_pos c]; exact Nat.le_add_right _ _
    · rw [if_neg c]
      by_cases c2 : (qa7 p s).length = 1
      · rw [if_pos c2]; exact Nat.le_trans (pw_le p tr f _ u) omG
      · rw [if_neg c2]; exact Nat.le_trans (pw_le p tr f _ (u + 1)) omG
theorem job_fmt {p : V.Prog} {f : Int} {j : List Int} (hf : 0 ≤ f ∧ f ≤ 400) (h : qdd p f j = true) : qgk j = true ∧ j.length ≤ 400 := by
  unfold qdd at h
  rw [Bool.and_eq_true, decide_eq_true_eq] at h
  have q := pw_le p j f.toNat (startP p) 0
  exact ⟨turns_nums h.1, by omega⟩
theorem pool_fmt {p : V.Prog} {f : Int} {o e : List (List Int)} {b : List Bool} {d : List (List Int)} (h : qjv p f o e b d = true) : PfOk f o e b d := by
  have q := @of_decide_eq_true _ (Classical.propDecidable _) h
  have hf : 0 ≤ f ∧ f ≤ 400 := by have := q.hf; simp [inP] at this; omega
  have ha := q.al
  unfold qdz at ha
  rw [List.length_append, List.length_append] at ha
  have hj : ∀ j, j ∈ qdz o e b d → qgk j = true ∧ j.length ≤ 400 := fun j hj => job_fmt hf (List.all_eq_true.1 q.jobs j hj)
  unfold qdz at hj
  exact ⟨hf, q.hb, q.hh, ⟨by omega, fun j h => hj j (by simp [h])⟩, ⟨by omega, fun j h => hj j (by simp [h])⟩, ⟨by omega, fun j h => hj j (by simp [h])⟩⟩
end Vg

namespace Vg
open Go Go.Proofs
set_option maxRecDepth 100000
set_option maxHeartbeats 40000000
theorem v_Join (l : List ByteArray) (hl : l.length ≤ 1000) (hs : ∀ x ∈ l, x.size ≤ 100) : CallsV Tryz.prog 127 [.dat (.seq .strs l), .dat (.str ⟨#[32]⟩)] (.dat (.str (qcd l ⟨#[32]⟩ l.length))) := by
  have q := qe9 hs (b := ⟨#[32]⟩) (by decide) l.length (Nat.le_refl _)
  have h := joinV Tryz.lays156 Tryz.Builder_Extra_156 rfl ⟨_, Tryz.func127, rfl, rfl⟩ l ⟨#[32]⟩ omG (by
    have h2 := qfx l ⟨#[32]⟩ l.length (Nat.le_refl _)
    rw [List.take_length] at h2
    rw [← h2]
    show (qcd l ⟨#[32]⟩ l.length).data.size ≤ _
    have : (qcd l ⟨#[32]⟩ l.length).data.size = (qcd l ⟨#[32]⟩ l.length).size := rfl
    omega)
  rwa [joinL_eq] at h
structure PrtK (l : List Int) (k : Nat) : Prop where
  h : k ≤ l.length
theorem ql9 (l : List Int) (hl : l.length ≤ 1000) (hn : qgk l = true) : CallsV Tryz.prog 97 [.dat (.seq .ints l)] (.dat (.str (fmtI l))) := by
  refine oV Tryz.func97 ⟨?_⟩
  repeat' (first | ((with_reducible refine fun (K1 : KT) hK => ?_); refine stW ⟨?_⟩) | ((with_reducible show K1 _ _); subst hK; conv => whnf) | (with_reducible exact rfl) | refine st0 ⟨?_⟩ | ((with_reducible refine SplS.mk (fun h => ?_) (fun h => ?_)) <;> first | exact ctM | (subst h; conv => whnf) | (conv => whnf)) | refine stB ⟨?_⟩ ⟨?_⟩ | (refine Exists.intro ({k : Nat // PrtK l k}) (Exists.intro (fun ⟨k, hk⟩ => mkS Tryz.f97.ntmps [(3, .row 8), (9, .dat (.seq .ints l)), (10, .dat (.i l.length)), (11, .dat (.i k))] [(8, .row 9 .strs ((l.map qbs).take k ++ List.replicate ((l.map qbs).length - k) ByteArray.empty) false)]) (Exists.intro (fun ⟨k, hk⟩ => l.length - k) (Exists.intro ⟨0, ⟨Nat.zero_le _⟩⟩ (And.intro (SubP.sub (σ := [(8, some 8)]) ⟨⟨rfl, rfl, rfl⟩, ⟨rfl, (qab ?_), (qab ?_), (qab ?_), trivial⟩, ⟨⟨⟨rfl, rfl⟩, ?_⟩, trivial⟩⟩) (fun ⟨k, hk⟩ => ?_))))); rotate_right; conv => whnf) | (refine Exists.intro (⟨k + 1, ?_⟩ : {k : Nat // PrtK l k}) (And.intro ?_ (SubP.sub (σ := [(8, some 8)]) ⟨⟨rfl, rfl, rfl⟩, ⟨rfl, (qab ?_), (qab ?_), (qab ?_), trivial⟩, ⟨⟨⟨rfl, rfl⟩, ?_⟩, trivial⟩⟩))) | ((with_reducible first | refine pcI (g := 55) ?_ | show Exists _); refine ⟨_, i_FmtP (h0 := ?_) (h1 := ?_) .., rfl, ?_⟩; rotate_right; conv => whnf) | ((with_reducible first | refine pcI (g := 127) ?_ | show Exists _); refine ⟨_, v_Join (hl := ?_) (hs := ?_) .., rfl, ?_⟩; rotate_right; conv => whnf) | (intro h; conv => whnf))
  all_goals repeat clear hK K1
  all_goals first | (with_reducible assumption) | exact ⟨by omega⟩ | ((with_reducible show (_ : Nat) < _); (dsimp only; omega)) | exact congrArg (Dat.int .i64) (qan asmR asmR).symm | (exact qio (map_set (l := l) asmR).symm) | exact (qls hn asmR).1 | exact (qls hn asmR).2 | (have q := hk.h; rw [map_len q]; first | omega | (simp only [Int.toNat_natCast]; omega)) | (rw [map_end asmR] at *; first | exact rfl | exact qlp hn _ asmR) | (rw [List.length_map]; simp; done) | ((with_reducible show (_ : Int) ≤ _); first | omega | (show (l.length : Int) * 16 ≤ _; omega) | (have hm : maxLen = 9223372036854775807 := rfl; omega)) | rfl | (refine congrArg (Sigma.mk K.strs) ?_; rw [List.take_zero, List.nil_append, List.length_map, Int.toNat_natCast]; rfl) | skip
theorem qno (l : List (List Int)) (h0 : JbsOk l) : CallsV Tryz.prog 56 [.dat (.seq .intss l)] (.dat (.str (qj0 l))) := by
  refine oV Tryz.func56 ⟨?_⟩
  repeat' (first | ((with_reducible refine fun (K1 : KT) hK => ?_); refine stW ⟨?_⟩) | ((with_reducible show K1 _ _); subst hK; conv => whnf) | (with_reducible exact rfl) | refine st0 ⟨?_⟩ | ((with_reducible refine SplS.mk (fun h => ?_) (fun h => ?_)) <;> first | exact ctM | (subst h; conv => whnf) | (conv => whnf)) | refine stB ⟨?_⟩ ⟨?_⟩ | (refine Exists.intro ({k : Nat // k ≤ l.length}) (Exists.intro (fun ⟨k, hk⟩ => mkS Tryz.f56.ntmps [(3, .dat (.str (qhv l k))), (6, .dat (.seq .intss l)), (7, .dat (.i l.length)), (8, .dat (.i k))] []) (Exists.intro (fun ⟨k, hk⟩ => l.length - k) (Exists.intro ⟨0, Nat.zero_le _⟩ (And.intro (SubP.sub (σ := []) ⟨⟨rfl, rfl, rfl⟩, ⟨(qab ?_), (qab ?_), (qab ?_), (qab ?_), trivial⟩, trivial⟩) (fun ⟨k, hk⟩ => ?_))))); rotate_right; conv => whnf) | (refine Exists.intro (⟨k + 1, ?_⟩ : {k : Nat // k ≤ l.length}) (And.intro ?_ (SubP.sub (σ := []) ⟨⟨rfl, rfl, rfl⟩, ⟨(qab ?_), (qab ?_), (qab ?_), (qab ?_), trivial⟩, trivial⟩))) | ((with_reducible first | refine pcI (g := 97) ?_ | show Exists _); refine ⟨_, ql9 (hl := ?_) (hn := ?_) .., rfl, ?_⟩; rotate_right; conv => whnf) | (intro h; conv => whnf))
  all_goals repeat clear hK K1
  all_goals first | (with_reducible assumption) | ((with_reducible show (_ : Nat) < _); (dsimp only; omega)) | ((with_reducible show (_ : Int) ≤ _); omega) | exact congrArg (Dat.int .i64) (qan asmR asmR).symm | exact (qi5 h0 asmR).1 | exact Nat.le_trans (qi5 h0 asmR).2 (by decide) | (have q1 := qia h0 k hk; have q2 := qi5 h0 (k := k) asmR; have q3 := qif q2.1; have q4 := h0.len; have hm : maxLen = 9223372036854775807 := rfl; have e1 : (ByteArray.mk #[124]).size = 1 := rfl; have q5 := q2.2; first | (rw [ByteArray.size_append]; omega) | omega) | (refine congrArg Dat.str ?_; rw [show k = l.length by omega]; rfl) | (refine congrArg Dat.str ?_; rw [show l.length = k by omega]; rfl) | (refine congrArg Dat.str ?_; rw [qhv, Int.toNat_natCast]) | (have e : k = l.length := omG; subst e; exact rfl) | rfl | skip
theorem i_heldJobs (f : Int) (o e : List (List Int)) (b : List Bool) (d : List (List Int)) (hb : e.length = b.length) (h4 : b.length ≤ 4) : CallsV Tryz.prog 57 [.agg [.dat (.i f), .dat (.seq .intss o), .dat (.seq .intss e), .dat (.seq .bools b), .dat (.seq .intss d)]] (.dat (.seq .intss (qa6 e b e.length))) := by
  refine oV Tryz.func57 ⟨?_⟩
  repeat' (first | ((with_reducible refine fun (K1 : KT) hK => ?_); refine stW ⟨?_⟩) | ((with_reducible show K1 _ _); subst hK; conv => whnf) | (with_reducible exact rfl) | refine st0 ⟨?_⟩ | ((with_reducible refine SplS.mk (fun h => ?_) (fun h => ?_)) <;> first | exact ctM | ((fail_if_success (have _x : @Eq Bool _ _ := h)); subst h; conv => whnf) | (conv => whnf)) | refine stB ⟨?_⟩ ⟨?_⟩ | (refine Exists.intro ({k : Nat // k ≤ e.length}) (Exists.intro (fun ⟨k, hk⟩ => mkS Tryz.f57.ntmps [(1, .ptr 1 0), (3, .row 3), (7, .dat (.seq .intss e)), (8, .dat (.i e.length)), (9, .dat (.i k))] [(1, .box [.dat (.i f), .dat (.seq .intss o), .dat (.seq .intss e), .dat (.seq .bools b), .dat (.seq .intss d)]), (3, .row 85 .intss (qa6 e b k) false)]) (Exists.intro (fun ⟨k, hk⟩ => e.length - k) (Exists.intro ⟨0, Nat.zero_le _⟩ (And.intro (SubP.sub (σ := [(1, some 1), (3, none)]) ⟨⟨rfl, rfl, rfl⟩, ⟨⟨rfl, rfl⟩, rfl, (qab ?_), (qab ?_), (qab ?_), trivial⟩, ⟨⟨(qaa ?_), (qaa ?_), (qaa ?_), (qaa ?_), (qaa ?_), trivial⟩, ?_, trivial⟩⟩) (fun ⟨k, hk⟩ => ?_))))); rotate_right; conv => whnf) | (refine Exists.intro (⟨k + 1, ?_⟩ : {k : Nat // k ≤ e.length}) (And.intro ?_ (SubP.sub (σ := [(1, some 1), (3, some 22)]) ⟨⟨rfl, rfl, rfl⟩, ⟨⟨rfl, rfl⟩, rfl, (qab ?_), (qab ?_), (qab ?_), trivial⟩, ⟨⟨(qaa ?_), (qaa ?_), (qaa ?_), (qaa ?_), (qaa ?_), trivial⟩, ⟨⟨rfl, rfl⟩, ?_⟩, trivial⟩⟩))) | (refine Exists.intro (⟨k + 1, ?_⟩ : {k : Nat // k ≤ e.length}) (And.intro ?_ (SubP.sub (σ := [(1, some 1), (3, some 3)]) ⟨⟨rfl, rfl, rfl⟩, ⟨⟨rfl, rfl⟩, rfl, (qab ?_), (qab ?_), (qab ?_), trivial⟩, ⟨⟨(qaa ?_), (qaa ?_), (qaa ?_), (qaa ?_), (qaa ?_), trivial⟩, ⟨⟨rfl, rfl⟩, ?_⟩, trivial⟩⟩))) | (intro h; conv => whnf))
  all_goals repeat clear hK K1
  all_goals (have hbl := qjm e b)
  all_goals first | (with_reducible assumption) | ((with_reducible show (_ : Nat) < _); (dsimp only; omega)) | ((with_reducible show (_ : Int) ≤ _); omega) | ((with_reducible show (_ : Int) < _); omega) | exact congrArg (Dat.int .i64) (qan asmR asmR).symm | (refine congrArg (Sigma.mk K.intss) ?_; rw [qa6, if_pos (by have q := (by with_reducible assumption : b.getD (k : Int).toNat K.bools.dflt = true); rw [Int.toNat_natCast] at q; exact q)]; exact rfl) | (refine congrArg (Sigma.mk K.intss) ?_; rw [qa6, if_neg (by have q := (by with_reducible assumption : b.getD (k : Int).toNat K.bools.dflt = false); rw [Int.toNat_natCast] at q; rw [q]; decide), List.append_nil]) | (have h1 := hbl k; (first | show ((qa6 e b k).length + 1) * 24 ≤ _ | show (qa6 e b k).length + 1 ≤ 2 ^ 63 - 1); omega) | (have h1 := hbl k; (first | show (0 + 1) * 24 ≤ _ | show 0 + 1 ≤ 2 ^ 63 - 1); decide) | (obtain rfl : k = e.length := omG; exact rfl) | ((with_reducible show _ ≤ _); omega) | exact rfl | skip
theorem qnq (w mem inn : Int) (code : List V.Ins) (f : Int) (o e : List (List Int)) (b : List Bool) (d : List (List Int)) (hol : o.length ≤ 1048576) (hdl : d.length ≤ 1048576) (hj : d.all (fun j => decide (j.length ≤ 1048576)) = true) (hpf : qjv ⟨w, mem, inn, code⟩ f o e b d = true → PfOk f o e b d) : CallsV Tryz.prog 24 [.agg [.dat (.i w), .dat (.i mem), .dat (.i inn), .dat (.seq .inss code)], .agg [.dat (.i f), .dat (.seq .intss o), .dat (.seq .intss e), .dat (.seq .bools b), .dat (.seq .intss d)]] (.dat (.str (qop ⟨w, mem, inn, code⟩ f o e b d))) := by
  refine oV Tryz.func24 ⟨?_⟩
  repeat' (first | ((with_reducible refine fun (K1 : KT) hK => ?_); refine stW ⟨?_⟩) | ((with_reducible show K1 _ _); subst hK; conv => whnf) | (with_reducible exact rfl) | refine st0 ⟨?_⟩ | ((with_reducible refine SplS.mk (fun h => ?_) (fun h => ?_)) <;> first | exact ctM | ((fail_if_success (have _x : @Eq Bool _ _ := h)); subst h; conv => whnf) | (conv => whnf)) | refine stB ⟨?_⟩ ⟨?_⟩ | ((with_reducible first | refine pcI (g := 54) ?_ | show Exists _); refine ⟨_, i_PoolOk (hol := ?_) (hdl := ?_) (hj := ?_) .., rfl, ?_⟩; rotate_right; conv => whnf) | ((with_reducible first | refine pcI (g := 55) ?_ | show Exists _); refine ⟨_, i_FmtP (h0 := ?_) (h1 := ?_) .., rfl, ?_⟩; rotate_right; conv => whnf) | ((with_reducible first | refine pcI (g := 56) ?_ | show Exists _); refine ⟨_, qno (h0 := ?_) .., rfl, ?_⟩; rotate_right; conv => whnf) | ((with_reducible first | refine pcI (g := 57) ?_ | show Exists _); refine ⟨_, i_heldJobs (hb := ?_) (h4 := ?_) .., rfl, ?_⟩; rotate_right; conv => whnf) | (intro h; conv => whnf))
  all_goals repeat clear hK K1
  all_goals (try have q := hpf asmR)
  all_goals first | (with_reducible assumption) | exact congrArg Dat.str (poolS_n asmR) | exact congrArg Dat.str (poolS_y asmR) | exact q.jo | exact q.jh | exact q.jd | (have q1 := q.hf; have q2 := q.hb; have q3 := q.he; first | omega | (have q4 := itoa_6 q1.1 omG; have q5 := itoa_6 (n := (b.length : Int)) omG omG; have q6 := qd9 q.jo; have q7 := qd9 q.jh; have q8 := qd9 q.jd; have e1 : (ByteArray.mk #[32]).size = 1 := rfl; have e2 : (ByteArray.mk #[59]).size = 1 := rfl; have hm : maxLen = 9223372036854775807 := rfl; (try simp only [ByteArray.size_append]); omega)) | rfl | skip
end Vg

namespace Vg
open Go Go.Proofs
set_option maxRecDepth 100000
set_option maxHeartbeats 40000000
theorem map_take {l : List Int} {k : Nat} (h : (k : Int) < l.length) : (l.map qbs).take (k + 1) = (l.map qbs).take k ++ [qbs (l.getD (k : Int).toNat K.ints.dflt)] := by
  have h' : k < (l.map qbs).length := by rw [List.length_map]; omega
  rw [← map_getD h, List.take_succ_eq_append_getElem h', List.getD_eq_getElem?_getD, List.getElem?_eq_getElem h']; rfl
theorem nums_2 {f : Int} {n : Nat} (hf : 0 ≤ f ∧ f ≤ 400) (hn : 1 ≤ n ∧ n ≤ 4) : qgk [f, (n : Int)] = true := by
  unfold qgk
  simp [inP]
  omega
structure PrsK (l : List Int) (k : Nat) : Prop where
  h : k ≤ l.length
theorem qgh (l : List Int) (hl : l.length ≤ 1000) (hn : qgk l = true) : CallsV Tryz.prog 50 [.dat (.seq .ints l)] (.dat (.str (fmtI l))) := by
  refine oV Tryz.func50 ⟨?_⟩
  repeat' (first | ((with_reducible refine fun (K1 : KT) hK => ?_); refine stW ⟨?_⟩) | ((with_reducible show K1 _ _); subst hK; conv => whnf) | (with_reducible exact rfl) | refine st0 ⟨?_⟩ | ((with_reducible refine SplS.mk (fun h => ?_) (fun h => ?_)) <;> first | exact ctM | (subst h; conv => whnf) | (conv => whnf)) | refine stB ⟨?_⟩ ⟨?_⟩ | (refine Exists.intro ({k : Nat // PrsK l k}) (Exists.intro (fun ⟨k, hk⟩ => mkS Tryz.f50.ntmps [(3, .row 3), (7, .dat (.seq .ints l)), (8, .dat (.i l.length)), (9, .dat (.i k))] [(3, .row 9 .strs ((l.map qbs).take k) false)]) (Exists.intro (fun ⟨k, hk⟩ => l.length - k) (Exists.intro ⟨0, ⟨Nat.zero_le _⟩⟩ (And.intro (SubP.sub (σ := [(3, some 6)]) ⟨⟨rfl, rfl, rfl⟩, ⟨rfl, (qab ?_), (qab ?_), (qab ?_), trivial⟩, ⟨⟨⟨rfl, rfl⟩, ?_⟩, trivial⟩⟩) (fun ⟨k, hk⟩ => ?_))))); rotate_right; conv => whnf) | (refine Exists.intro (⟨k + 1, ?_⟩ : {k : Nat // PrsK l k}) (And.intro ?_ (SubP.sub (σ := [(3, some 17)]) ⟨⟨rfl, rfl, rfl⟩, ⟨rfl, (qab ?_), (qab ?_), (qab ?_), trivial⟩, ⟨⟨⟨rfl, rfl⟩, ?_⟩, trivial⟩⟩))) | ((with_reducible first | refine pcI (g := 88) ?_ | show Exists _); refine ⟨_, s_FmtP (h0 := ?_) (h1 := ?_) .., rfl, ?_⟩; rotate_right; conv => whnf) | ((with_reducible first | refine pcI (g := 89) ?_ | show Exists _); refine ⟨_, s_JoinP (hl := ?_) (hs := ?_) (hb := ?_) .., rfl, ?_⟩; rotate_right; conv => whnf) | (intro h; conv => whnf))
  all_goals repeat clear hK K1
  all_goals first | (with_reducible assumption) | exact ⟨by omega⟩ | ((with_reducible show (_ : Nat) < _); (dsimp only; omega)) | ((with_reducible show (_ : Int) ≤ _); omega) | ((with_reducible show (_ : Int) < _); omega) | exact congrArg (Dat.int .i64) (qan asmR asmR).symm | exact (qls hn asmR).1 | exact (qls hn asmR).2 | exact congrArg (Sigma.mk K.strs) (map_take asmR) | (have h1 := hk.h; (first | show (((l.map qbs).take k).length + 1) * 16 ≤ _ | show ((l.map qbs).take k).length + 1 ≤ 2 ^ 63 - 1); rw [List.length_take, List.length_map]; omega) | (rw [List.take_of_length_le (by rw [List.length_map]; omega)] at *; first | exact rfl | exact qlp hn _ asmR | (rw [List.length_map]; exact hl)) | decide | rfl | skip
theorem s_l10Text (l : List (List Int)) (h0 : JbsOk l) : CallsV Tryz.prog 51 [.dat (.seq .intss l)] (.dat (.str (qj0 l))) := by
  refine oV Tryz.func51 ⟨?_⟩
  repeat' (first | ((with_reducible refine fun (K1 : KT) hK => ?_); refine stW ⟨?_⟩) | ((with_reducible show K1 _ _); subst hK; conv => whnf) | (with_reducible exact rfl) | refine st0 ⟨?_⟩ | ((with_reducible refine SplS.mk (fun h => ?_) (fun h => ?_)) <;> first | exact ctM | (subst h; conv => whnf) | (conv => whnf)) | refine stB ⟨?_⟩ ⟨?_⟩ | (refine Exists.intro ({k : Nat // k ≤ l.length}) (Exists.intro (fun ⟨k, hk⟩ => mkS Tryz.f51.ntmps [(3, .dat (.str (qhv l k))), (6, .dat (.seq .intss l)), (7, .dat (.i l.length)), (8, .dat (.i k))] []) (Exists.intro (fun ⟨k, hk⟩ => l.length - k) (Exists.intro ⟨0, Nat.zero_le _⟩ (And.intro (SubP.sub (σ := []) ⟨⟨rfl, rfl, rfl⟩, ⟨(qab ?_), (qab ?_), (qab ?_), (qab ?_), trivial⟩, trivial⟩) (fun ⟨k, hk⟩ => ?_))))); rotate_right; conv => whnf) | (refine Exists.intro (⟨k + 1, ?_⟩ : {k : Nat // k ≤ l.length}) (And.intro ?_ (SubP.sub (σ := []) ⟨⟨rfl, rfl, rfl⟩, ⟨(qab ?_), (qab ?_), (qab ?_), (qab ?_), trivial⟩, trivial⟩))) | ((with_reducible first | refine pcI (g := 50) ?_ | show Exists _); refine ⟨_, qgh (hl := ?_) (hn := ?_) .., rfl, ?_⟩; rotate_right; conv => whnf) | (intro h; conv => whnf))
  all_goals repeat clear hK K1
  all_goals first | (with_reducible assumption) | ((with_reducible show (_ : Nat) < _); (dsimp only; omega)) | ((with_reducible show (_ : Int) ≤ _); omega) | exact congrArg (Dat.int .i64) (qan asmR asmR).symm | exact (qi5 h0 asmR).1 | exact Nat.le_trans (qi5 h0 asmR).2 (by decide) | (have q1 := qia h0 k hk; have q2 := qi5 h0 (k := k) asmR; have q3 := qif q2.1; have q4 := h0.len; have hm : maxLen = 9223372036854775807 := rfl; have e1 : (ByteArray.mk #[124]).size = 1 := rfl; have q5 := q2.2; first | (rw [ByteArray.size_append]; omega) | omega) | (refine congrArg Dat.str ?_; rw [qhv, Int.toNat_natCast, ByteArray.append_assoc]) | (have e : k = l.length := omG; subst e; exact rfl) | rfl | skip
theorem qm0 (w mem inn : Int) (code : List V.Ins) (f : Int) (o e : List (List Int)) (b : List Bool) (d : List (List Int)) (hol : o.length ≤ 1048576) (hdl : d.length ≤ 1048576) (hj : d.all (fun j => decide (j.length ≤ 1048576)) = true) (hpf : qjv ⟨w, mem, inn, code⟩ f o e b d = true → PfOk f o e b d) : CallsV Tryz.prog 22 [.agg [.dat (.i w), .dat (.i mem), .dat (.i inn), .dat (.seq .inss code)], .agg [.dat (.i f), .dat (.seq .intss o), .dat (.seq .intss e), .dat (.seq .bools b), .dat (.seq .intss d)]] (.dat (.str (qop ⟨w, mem, inn, code⟩ f o e b d))) := by
  refine oV Tryz.func22 ⟨?_⟩
  repeat' (first | ((with_reducible refine fun (K1 : KT) hK => ?_); refine stW ⟨?_⟩) | ((with_reducible show K1 _ _); subst hK; conv => whnf) | (with_reducible exact rfl) | refine stD ⟨?_⟩ | refine st0 ⟨?_⟩ | ((with_reducible refine SplS.mk (fun h => ?_) (fun h => ?_)) <;> first | exact ctM | ((fail_if_success (have _x : @Eq Bool _ _ := h)); subst h; conv => whnf) | (conv => whnf)) | refine stB ⟨?_⟩ ⟨?_⟩ | (refine Exists.intro ({k : Nat // k ≤ b.length}) (Exists.intro (fun ⟨k, hk⟩ => mkS Tryz.f22.ntmps [(2, .ptr 2 0), (3, .ptr 3 0), (5, .row 5), (14, .dat (.seq .bools b)), (15, .dat (.i b.length)), (16, .dat (.i k))] [(2, .box [.dat (.i w), .dat (.i mem), .dat (.i inn), .dat (.seq .inss code)]), (3, .box [.dat (.i f), .dat (.seq .intss o), .dat (.seq .intss e), .dat (.seq .bools b), .dat (.seq .intss d)]), (5, .row 85 .intss (qa6 e b k) false)]) (Exists.intro (fun ⟨k, hk⟩ => b.length - k) (Exists.intro ⟨0, Nat.zero_le _⟩ (And.intro (SubP.sub (σ := [(2, some 2), (3, some 3), (5, some 12)]) ⟨⟨rfl, rfl, rfl⟩, ⟨⟨rfl, rfl⟩, ⟨rfl, rfl⟩, rfl, (qab ?_), (qab ?_), (qab ?_), trivial⟩, ⟨⟨(qaa ?_), (qaa ?_), (qaa ?_), (qaa ?_), trivial⟩, ⟨(qaa ?_), (qaa ?_), (qaa ?_), (qaa ?_), (qaa ?_), trivial⟩, ⟨⟨rfl, rfl⟩, ?_⟩, trivial⟩⟩) (fun ⟨k, hk⟩ => ?_))))); rotate_right; conv => whnf) | (refine Exists.intro (⟨k + 1, ?_⟩ : {k : Nat // k ≤ b.length}) (And.intro ?_ (SubP.sub (σ := [(2, some 2), (3, some 3), (5, some 29)]) ⟨⟨rfl, rfl, rfl⟩, ⟨⟨rfl, rfl⟩, ⟨rfl, rfl⟩, rfl, (qab ?_), (qab ?_), (qab ?_), trivial⟩, ⟨⟨(qaa ?_), (qaa ?_), (qaa ?_), (qaa ?_), trivial⟩, ⟨(qaa ?_), (qaa ?_), (qaa ?_), (qaa ?_), (qaa ?_), trivial⟩, ⟨⟨rfl, rfl⟩, ?_⟩, trivial⟩⟩))) | (refine Exists.intro (⟨k + 1, ?_⟩ : {k : Nat // k ≤ b.length}) (And.intro ?_ (SubP.sub (σ := [(2, some 2), (3, some 3), (5, some 5)]) ⟨⟨rfl, rfl, rfl⟩, ⟨⟨rfl, rfl⟩, ⟨rfl, rfl⟩, rfl, (qab ?_), (qab ?_), (qab ?_), trivial⟩, ⟨⟨(qaa ?_), (qaa ?_), (qaa ?_), (qaa ?_), trivial⟩, ⟨(qaa ?_), (qaa ?_), (qaa ?_), (qaa ?_), (qaa ?_), trivial⟩, ⟨⟨rfl, rfl⟩, ?_⟩, trivial⟩⟩))) | ((with_reducible first | refine pcI (g := 49) ?_ | show Exists _); refine ⟨_, s_PoolOk (hol := ?_) (hdl := ?_) (hj := ?_) .., rfl, ?_⟩; rotate_right; conv => whnf) | ((with_reducible first | refine pcI (g := 50) ?_ | show Exists _); refine ⟨_, qgh (hl := ?_) (hn := ?_) .., rfl, ?_⟩; rotate_right; conv => whnf) | ((with_reducible first | refine pcI (g := 51) ?_ | show Exists _); refine ⟨_, s_l10Text (h0 := ?_) .., rfl, ?_⟩; rotate_right; conv => whnf) | (intro h; conv => whnf))
  all_goals repeat clear hK K1
  all_goals (try have q := hpf asmR)
  all_goals first | (with_reducible assumption) | exact congrArg Dat.str (poolS_n asmR) | ((with_reducible show (_ : Nat) < _); (dsimp only; omega)) | exact congrArg (Dat.int .i64) (qan asmR asmR).symm | (refine congrArg (Sigma.mk K.intss) ?_; rw [qa6, if_pos (by have q := (by with_reducible assumption : b.getD (k : Int).toNat K.bools.dflt = true); rw [Int.toNat_natCast] at q; exact q)]; exact rfl) | (refine congrArg (Sigma.mk K.intss) ?_; rw [qa6, if_neg (by have q := (by with_reducible assumption : b.getD (k : Int).toNat K.bools.dflt = false); rw [Int.toNat_natCast] at q; rw [q]; decide), List.append_nil]) | exact q.jo | exact q.jd | (have h1 := qjm e b k; have q2 := q.hb; (first | show ((qa6 e b k).length + 1) * 24 ≤ _ | show (qa6 e b k).length + 1 ≤ 2 ^ 63 - 1); omega) | (have q1 := q.hf; have q2 := q.hb; have q3 := q.he; first | omega | (obtain rfl : k = b.length := omG; first | (refine congrArg Dat.str ?_; rw [poolS_y asmR, fmt_2, q3]) | (rw [← q3]; exact q.jh) | (have q4 := qif (nums_2 q.hf q.hb); have q6 := qd9 q.jo; have q7 := qd9 q.jh; have q8 := qd9 q.jd; have e2 : (ByteArray.mk #[59]).size = 1 := rfl; have hm : maxLen = 9223372036854775807 := rfl; have e3 : [f, (b.length : Int)].length = 2 := rfl; rw [q3] at q7; (try simp only [ByteArray.size_append]); omega)) | exact nums_2 q.hf q.hb) | decide | rfl | skip
end Vg
