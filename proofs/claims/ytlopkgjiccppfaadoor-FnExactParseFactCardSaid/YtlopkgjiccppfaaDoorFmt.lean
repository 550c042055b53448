/- Facts are printed: contracts of the functions that print numbers, registers and facts, and of the law FnExactFormatFact. Condition: lists are no longer than the law lets through. -/
import Derived.Test.YtlopkgjiccppfaaDoorFact
import Derived.Test.YtlopkgjiccppfaaDoorItoaI
import Derived.Test.YtlopkgjiccppfaaDoorShelf
namespace Vg
open Go Go.Proofs
def itoaS (n : Int) : ByteArray := ⟨(Lib.itoa n).toArray⟩
theorem v_Itoa (n : Int) (h0 : -9223372036854775808 ≤ n) (h1 : n ≤ 9223372036854775807) : CallsV Tryd.prog 37 [.dat (.i n)] (.dat (.str (itoaS n))) :=
  itoaV Tryd.laysM171 rfl ⟨_, Tryd.func37, rfl, rfl⟩ (by kernel_rfl) (List.mem_singleton.2 rfl) n h0 h1
set_option maxRecDepth 100000 in
theorem i_FormatInt (n : Int) (h0 : -9223372036854775808 ≤ n) (h1 : n ≤ 9223372036854775807) : CallsV Tryd.prog 24 [.dat (.i n)] (.dat (.str (itoaS n))) := by
  refine CallsV.of_awp tauOk mixOk Tryd.func24 rfl rfl rfl ?_
  conv => whnf
  repeat' (first
    | ((with_reducible refine Alt.l ?_); conv => whnf)
    | ((with_reducible refine fun (K1 : AX → AState → Prop) hK => ?_); conv => whnf)
    | ((with_reducible show K1 _ _); subst hK; conv => whnf)
    | (with_reducible exact rfl)
    | ((with_reducible refine sp_T ?_); conv => whnf)
    | ((with_reducible refine sp_F ?_); conv => whnf)
    | ((with_reducible refine sp_T' ?_); conv => whnf)
    | ((with_reducible refine sp_F' ?_); conv => whnf)
    | ((with_reducible refine sp_dF ?_ ?_); decide; conv => whnf)
    | ((with_reducible refine sp_dT ?_ ?_); decide; conv => whnf)
    | ((with_reducible refine sp_d (fun h => ?_) (fun h => ?_)) <;> first | contradiction | (subst h; conv => whnf) | (conv => whnf))
    | ((with_reducible refine sp_d' (fun h => ?_) (fun h => ?_)) <;> first | contradiction | (subst h; conv => whnf) | (conv => whnf))
    | ((with_reducible refine sp_eF ?_ ?_); decide; conv => whnf)
    | ((with_reducible refine sp_eT ?_); conv => whnf)
    | ((with_reducible refine sp_e (fun h => ?_) (fun h => ?_)) <;> first | contradiction | (subst h; conv => whnf) | (conv => whnf))
    | ((with_reducible refine sp_e' (fun h => ?_) (fun h => ?_)) <;> first | contradiction | (subst h; conv => whnf) | (conv => whnf))
    | ((with_reducible refine sp_n (fun h => ?_) (fun h => ?_)) <;> first | contradiction | (subst h; conv => whnf) | (conv => whnf))
    | ((with_reducible refine sp_n' (fun h => ?_) (fun h => ?_)) <;> first | contradiction | (subst h; conv => whnf) | (conv => whnf))
    | ((with_reducible refine sp_nb (fun h => ?_) (fun h => ?_)) <;> first | (exact Bool.noConfusion (Eq.trans (Eq.symm h) (show _ = true by with_reducible assumption))) | (exact Bool.noConfusion (Eq.trans (Eq.symm (show _ = false by with_reducible assumption)) h)) | (conv => whnf))
    | ((with_reducible refine sp_nb' (fun h => ?_) (fun h => ?_)) <;> first | (exact Bool.noConfusion (Eq.trans (Eq.symm h) (show _ = true by with_reducible assumption))) | (exact Bool.noConfusion (Eq.trans (Eq.symm (show _ = false by with_reducible assumption)) h)) | (conv => whnf))
    | ((with_reducible refine sp_b (fun h => ?_) (fun h => ?_)) <;> first | (exact Bool.noConfusion (Eq.trans (Eq.symm h) (show _ = true by with_reducible assumption))) | (exact Bool.noConfusion (Eq.trans (Eq.symm (show _ = false by with_reducible assumption)) h)) | (conv => whnf))
    | ((with_reducible refine sp_b' (fun h => ?_) (fun h => ?_)) <;> first | (exact Bool.noConfusion (Eq.trans (Eq.symm h) (show _ = true by with_reducible assumption))) | (exact Bool.noConfusion (Eq.trans (Eq.symm (show _ = false by with_reducible assumption)) h)) | (conv => whnf))
    | (refine ⟨(rfl : nodupB _ = true), rfl, ?_⟩; conv => whnf)
    | (with_reducible refine bnd2 ?_ ?_)
    | (with_reducible refine bnd2' ?_ ?_)
    | (with_reducible refine bndN ?_ ?_)
    | ((with_reducible refine and_of ?_ ?_); conv => whnf)
    | ((with_reducible refine pcI (g := 37) ?_); refine ⟨_, v_Itoa (h0 := ?_) (h1 := ?_) .., rfl, ?_⟩; rotate_right; conv => whnf)
    | ((with_reducible show Exists _); refine Exists.intro _ (And.intro (v_Itoa (h0 := ?_) (h1 := ?_) ..) (And.intro rfl ?_)); rotate_right; conv => whnf)
    | ((with_reducible show awpOps _ _ _ _ _ _); conv => whnf)
    | (intro h; conv => whnf))
  all_goals (repeat (clear hK; clear K1))
  all_goals first | (with_reducible assumption) | rfl | skip
/-! ### numerals are short -/
theorem dig_len : ∀ (k u : Nat), u < 10 ^ (k + 1) → (Lib.decDigits u).length ≤ k + 1
  | 0, u, h => by rw [Lib.decDigits, dif_pos (by simpa using h)]; simp
  | k + 1, u, h => by
    rw [Lib.decDigits]
    split
    · simp
    · have := dig_len k (u / 10) (by rw [Nat.pow_succ] at h; omega)
      rw [List.length_append]; simp; omega
theorem itoa_len {n : Int} (h0 : 0 ≤ n) (h1 : n < 1000) : (itoaS n).size ≤ 3 := by
  show (Lib.itoa n).toArray.size ≤ 3
  unfold Lib.itoa
  rw [if_neg (by omega)]
  simpa using dig_len 2 n.toNat (by omega)
def regS (n : Int) : ByteArray := ⟨#[114]⟩ ++ itoaS n
theorem reg_len {n : Int} (h0 : 0 ≤ n) (h1 : n < 1000) : (regS n).size ≤ 4 := by
  have := itoa_len h0 h1
  unfold regS
  rw [ByteArray.size_append]
  show 1 + _ ≤ 4
  omega
set_option maxRecDepth 100000 in
theorem i_regName (n : Int) (h0 : 0 ≤ n) (h1 : n < 1000) : CallsV Tryd.prog 22 [.dat (.i n)] (.dat (.str (regS n))) := by
  refine CallsV.of_awp tauOk mixOk Tryd.func22 rfl rfl rfl ?_
  conv => whnf
  repeat' (first
    | ((with_reducible refine Alt.l ?_); conv => whnf)
    | ((with_reducible refine fun (K1 : AX → AState → Prop) hK => ?_); conv => whnf)
    | ((with_reducible show K1 _ _); subst hK; conv => whnf)
    | (with_reducible exact rfl)
    | ((with_reducible refine sp_T ?_); conv => whnf)
    | ((with_reducible refine sp_F ?_); conv => whnf)
    | ((with_reducible refine sp_T' ?_); conv => whnf)
    | ((with_reducible refine sp_F' ?_); conv => whnf)
    | ((with_reducible refine sp_dF ?_ ?_); decide; conv => whnf)
    | ((with_reducible refine sp_dT ?_ ?_); decide; conv => whnf)
    | ((with_reducible refine sp_d (fun h => ?_) (fun h => ?_)) <;> first | contradiction | (subst h; conv => whnf) | (conv => whnf))
    | ((with_reducible refine sp_d' (fun h => ?_) (fun h => ?_)) <;> first | contradiction | (subst h; conv => whnf) | (conv => whnf))
    | ((with_reducible refine sp_eF ?_ ?_); decide; conv => whnf)
    | ((with_reducible refine sp_eT ?_); conv => whnf)
    | ((with_reducible refine sp_e (fun h => ?_) (fun h => ?_)) <;> first | contradiction | (subst h; conv => whnf) | (conv => whnf))
    | ((with_reducible refine sp_e' (fun h => ?_) (fun h => ?_)) <;> first | contradiction | (subst h; conv => whnf) | (conv => whnf))
    | ((with_reducible refine sp_n (fun h => ?_) (fun h => ?_)) <;> first | contradiction | (subst h; conv => whnf) | (conv => whnf))
    | ((with_reducible refine sp_n' (fun h => ?_) (fun h => ?_)) <;> first | contradiction | (subst h; conv => whnf) | (conv => whnf))
    | ((with_reducible refine sp_nb (fun h => ?_) (fun h => ?_)) <;> first | (exact Bool.noConfusion (Eq.trans (Eq.symm h) (show _ = true by with_reducible assumption))) | (exact Bool.noConfusion (Eq.trans (Eq.symm (show _ = false by with_reducible assumption)) h)) | (conv => whnf))
    | ((with_reducible refine sp_nb' (fun h => ?_) (fun h => ?_)) <;> first | (exact Bool.noConfusion (Eq.trans (Eq.symm h) (show _ = true by with_reducible assumption))) | (exact Bool.noConfusion (Eq.trans (Eq.symm (show _ = false by with_reducible assumption)) h)) | (conv => whnf))
    | ((with_reducible refine sp_b (fun h => ?_) (fun h => ?_)) <;> first | (exact Bool.noConfusion (Eq.trans (Eq.symm h) (show _ = true by with_reducible assumption))) | (exact Bool.noConfusion (Eq.trans (Eq.symm (show _ = false by with_reducible assumption)) h)) | (conv => whnf))
    | ((with_reducible refine sp_b' (fun h => ?_) (fun h => ?_)) <;> first | (exact Bool.noConfusion (Eq.trans (Eq.symm h) (show _ = true by with_reducible assumption))) | (exact Bool.noConfusion (Eq.trans (Eq.symm (show _ = false by with_reducible assumption)) h)) | (conv => whnf))
    | (refine ⟨(rfl : nodupB _ = true), rfl, ?_⟩; conv => whnf)
    | (with_reducible refine bnd2 ?_ ?_)
    | (with_reducible refine bnd2' ?_ ?_)
    | (with_reducible refine bndN ?_ ?_)
    | ((with_reducible refine and_of ?_ ?_); conv => whnf)
    | ((with_reducible refine pcI (g := 24) ?_); refine ⟨_, i_FormatInt (h0 := ?_) (h1 := ?_) .., rfl, ?_⟩; rotate_right; conv => whnf)
    | ((with_reducible show Exists _); refine Exists.intro _ (And.intro (i_FormatInt (h0 := ?_) (h1 := ?_) ..) (And.intro rfl ?_)); rotate_right; conv => whnf)
    | ((with_reducible show awpOps _ _ _ _ _ _); conv => whnf)
    | (intro h; conv => whnf))
  all_goals (repeat (clear hK; clear K1))
  all_goals first | (with_reducible assumption) | rfl | omega | (have q := itoa_len h0 h1; have hm : maxLen = 9223372036854775807 := rfl; show 1 + (itoaS n).size ≤ maxLen; omega) | skip
def factW (k : Int) : ByteArray :=
  if k = 1 then ⟨#[105, 115]⟩ else if k = 2 then ⟨#[115, 97, 109, 101]⟩ else if k = 3 then ⟨#[109, 111, 115, 116]⟩ else if k = 4 then ⟨#[98, 105, 116]⟩ else if k = 5 then ⟨#[115, 117, 109]⟩ else ⟨#[111, 114, 100, 101, 114]⟩
theorem factW_len (k : Int) : (factW k).size ≤ 5 := by
  unfold factW
  repeat' split
  all_goals decide
set_option maxRecDepth 100000 in
theorem i_factWord (k : Int) : CallsV Tryd.prog 23 [.dat (.i k)] (.dat (.str (factW k))) := by
  refine CallsV.of_awp tauOk mixOk Tryd.func23 rfl rfl rfl ?_
  conv => whnf
  repeat' (first
    | ((with_reducible refine Alt.l ?_); conv => whnf)
    | ((with_reducible refine fun (K1 : AX → AState → Prop) hK => ?_); conv => whnf)
    | ((with_reducible show K1 _ _); subst hK; conv => whnf)
    | (with_reducible exact rfl)
    | ((with_reducible refine sp_T ?_); conv => whnf)
    | ((with_reducible refine sp_F ?_); conv => whnf)
    | ((with_reducible refine sp_T' ?_); conv => whnf)
    | ((with_reducible refine sp_F' ?_); conv => whnf)
    | ((with_reducible refine sp_dF ?_ ?_); decide; conv => whnf)
    | ((with_reducible refine sp_dT ?_ ?_); decide; conv => whnf)
    | ((with_reducible refine sp_d (fun h => ?_) (fun h => ?_)) <;> first | contradiction | (subst h; conv => whnf) | (conv => whnf))
    | ((with_reducible refine sp_d' (fun h => ?_) (fun h => ?_)) <;> first | contradiction | (subst h; conv => whnf) | (conv => whnf))
    | ((with_reducible refine sp_eF ?_ ?_); decide; conv => whnf)
    | ((with_reducible refine sp_eT ?_); conv => whnf)
    | ((with_reducible refine sp_e (fun h => ?_) (fun h => ?_)) <;> first | contradiction | (subst h; conv => whnf) | (conv => whnf))
    | ((with_reducible refine sp_e' (fun h => ?_) (fun h => ?_)) <;> first | contradiction | (subst h; conv => whnf) | (conv => whnf))
    | ((with_reducible refine sp_n (fun h => ?_) (fun h => ?_)) <;> first | contradiction | (subst h; conv => whnf) | (conv => whnf))
    | ((with_reducible refine sp_n' (fun h => ?_) (fun h => ?_)) <;> first | contradiction | (subst h; conv => whnf) | (conv => whnf))
    | ((with_reducible refine sp_nb (fun h => ?_) (fun h => ?_)) <;> first | (exact Bool.noConfusion (Eq.trans (Eq.symm h) (show _ = true by with_reducible assumption))) | (exact Bool.noConfusion (Eq.trans (Eq.symm (show _ = false by with_reducible assumption)) h)) | (conv => whnf))
    | ((with_reducible refine sp_nb' (fun h => ?_) (fun h => ?_)) <;> first | (exact Bool.noConfusion (Eq.trans (Eq.symm h) (show _ = true by with_reducible assumption))) | (exact Bool.noConfusion (Eq.trans (Eq.symm (show _ = false by with_reducible assumption)) h)) | (conv => whnf))
    | ((with_reducible refine sp_b (fun h => ?_) (fun h => ?_)) <;> first | (exact Bool.noConfusion (Eq.trans (Eq.symm h) (show _ = true by with_reducible assumption))) | (exact Bool.noConfusion (Eq.trans (Eq.symm (show _ = false by with_reducible assumption)) h)) | (conv => whnf))
    | ((with_reducible refine sp_b' (fun h => ?_) (fun h => ?_)) <;> first | (exact Bool.noConfusion (Eq.trans (Eq.symm h) (show _ = true by with_reducible assumption))) | (exact Bool.noConfusion (Eq.trans (Eq.symm (show _ = false by with_reducible assumption)) h)) | (conv => whnf))
    | (refine ⟨(rfl : nodupB _ = true), rfl, ?_⟩; conv => whnf)
    | (with_reducible refine bnd2 ?_ ?_)
    | (with_reducible refine bnd2' ?_ ?_)
    | (with_reducible refine bndN ?_ ?_)
    | ((with_reducible refine and_of ?_ ?_); conv => whnf)
    | ((with_reducible show awpOps _ _ _ _ _ _); conv => whnf)
    | (intro h; conv => whnf))
  all_goals (repeat (clear hK; clear K1))
  all_goals first | rfl | (simp only [factW, *, if_false]; done) | (unfold factW; simp [*]; done) | skip
/-! ### numbers as the reference prints them -/
structure FmtI (n0 n : Int) (l : List UInt8) : Prop where
  dig : Lib.decDigits n.toNat ++ l = Lib.decDigits n0.toNat
  len : l.length + 1 ≤ (Lib.decDigits n0.toNat).length
  le : n ≤ n0
  nn : 0 ≤ n
theorem dig_pos (u : Nat) : 1 ≤ (Lib.decDigits u).length := by rw [Lib.decDigits]; split <;> simp
theorem fmtI_0 {n : Int} (h : 0 ≤ n) : FmtI n n [] := ⟨by simp, by simpa using dig_pos n.toNat, Int.le_refl _, h⟩
theorem fmtI_s {n0 n : Int} {l : List UInt8} (h : FmtI n0 n l) (hn : n > 9) : FmtI n0 (n / 10) (UInt8.ofNat (48 + (n % 10).toNat) :: l) := by
  have h10 : (n / 10).toNat = n.toNat / 10 := by omega
  have hm : (n % 10).toNat = n.toNat % 10 := by omega
  have e : Lib.decDigits (n / 10).toNat ++ UInt8.ofNat (48 + (n % 10).toNat) :: l = Lib.decDigits n0.toNat := by
    rw [← h.dig, h10, hm]
    conv => rhs; rw [Lib.decDigits, dif_neg (by omega)]
    simp
  refine ⟨e, ?_, by have := h.le; omega, by omega⟩
  rw [← e, List.length_append]
  have := dig_pos (n / 10).toNat
  simp
  omega
theorem str_cons (x : UInt8) (l : List UInt8) : (⟨(x :: l).toArray⟩ : ByteArray) = ⟨#[x]⟩ ++ ⟨l.toArray⟩ := by
  apply ByteArray.ext
  rw [ByteArray.data_append]
  apply Array.ext'
  simp
theorem u8_dig {m : Nat} (h : m < 10) : strOfNums [IntKind.u8.wrap (IntKind.i64.wrap (48 + (m : Int)))] = ⟨#[UInt8.ofNat (48 + m)]⟩ := by
  have e1 : IntKind.i64.wrap (48 + (m : Int)) = ((48 + m : Nat) : Int) := by rw [wrap_id (by omega) (by omega)]; omega
  have e2 : IntKind.u8.wrap ((48 + m : Nat) : Int) = ((48 + m : Nat) : Int) := by
    simp only [IntKind.wrap]
    have q1 : (2 : Int) ^ IntKind.u8.bits = 256 := rfl
    have q3 : IntKind.u8.signed = false := rfl
    rw [q1, q3]
    simp
    omega
  rw [e1, e2]
  show (⟨#[UInt8.ofNat ((48 + m : Nat) : Int).toNat]⟩ : ByteArray) = _
  rw [Int.toNat_natCast]
theorem fmt_s {n0 n : Int} {l : List UInt8} (h : FmtI n0 n l) : Dat.str ⟨(UInt8.ofNat (48 + (n % 10).toNat) :: l).toArray⟩ = Dat.str (strOfNums [IntKind.u8.wrap (IntKind.i64.wrap (48 + n.tmod 10))] ++ ⟨l.toArray⟩) := by
  have e : n.tmod 10 = (((n % 10).toNat : Nat) : Int) := by rw [Int.tmod_eq_emod_of_nonneg h.nn]; omega
  rw [e, u8_dig (by omega), ← str_cons]
theorem fmt_q {n0 n : Int} {l : List UInt8} (h : FmtI n0 n l) (h1 : n0 < 1000000) : Dat.i (n / 10) = Dat.int .i64 (IntKind.i64.wrap (n.tdiv 10)) := by
  have e : n.tdiv 10 = n / 10 := Int.tdiv_eq_ediv_of_nonneg h.nn
  have := h.le; have := h.nn
  rw [e, wrap_id (by omega) (by omega)]
theorem fmt_end {n0 n : Int} {l : List UInt8} (h : FmtI n0 n l) (hn : ¬ n > 9) : Dat.str (itoaS n0) = Dat.str (strOfNums [IntKind.u8.wrap (IntKind.i64.wrap (48 + n))] ++ ⟨l.toArray⟩) := by
  have h0 := h.nn
  have h1 := h.le
  have hn' : n.toNat < 10 := by omega
  have en : n = ((n.toNat : Nat) : Int) := by omega
  rw [en, u8_dig hn', ← str_cons]
  have e := h.dig
  rw [Lib.decDigits, dif_pos hn'] at e
  have : Lib.itoa n0 = UInt8.ofNat (48 + n.toNat) :: l := by
    unfold Lib.itoa
    rw [if_neg (by omega), ← e]; rfl
  unfold itoaS
  rw [this]
theorem fmt_len {n0 n : Int} {l : List UInt8} (h : FmtI n0 n l) (h1 : n0 < 1000000) : l.length ≤ 6 := by
  have := h.nn; have := h.le
  have := dig_len 5 n0.toNat (by omega)
  have := h.len
  omega
theorem fmt_mu {n0 n : Int} {l : List UInt8} (_h : FmtI n0 n l) (hn : n > 9) : (n / 10).toNat < n.toNat := by omega
theorem fmt_b {l : List UInt8} {x : ByteArray} (h : l.length ≤ 6) (hx : x.size = 1 := by rfl) : x.size + (⟨l.toArray⟩ : ByteArray).size ≤ maxLen := by
  have e : (⟨l.toArray⟩ : ByteArray).size = l.length := List.size_toArray ..
  have hm : maxLen = 9223372036854775807 := rfl
  omega
set_option maxHeartbeats 2000000 in
set_option maxRecDepth 100000 in
theorem s_FormatInt (n0 : Int) (h0 : 0 ≤ n0) (h1 : n0 < 1000000) : CallsV Tryd.prog 18 [.dat (.i n0)] (.dat (.str (itoaS n0))) := by
  refine CallsV.of_awp tauOk mixOk Tryd.func18 rfl rfl rfl ?_
  conv => whnf
  repeat' (first
    | ((with_reducible refine Alt.l ?_); conv => whnf)
    | ((with_reducible refine fun (K1 : AX → AState → Prop) hK => ?_); conv => whnf)
    | ((with_reducible show K1 _ _); subst hK; conv => whnf)
    | (with_reducible exact rfl)
    | ((with_reducible refine sp_T ?_); conv => whnf)
    | ((with_reducible refine sp_F ?_); conv => whnf)
    | ((with_reducible refine sp_T' ?_); conv => whnf)
    | ((with_reducible refine sp_F' ?_); conv => whnf)
    | ((with_reducible refine sp_dF ?_ ?_); decide; conv => whnf)
    | ((with_reducible refine sp_dT ?_ ?_); decide; conv => whnf)
    | ((with_reducible refine sp_d (fun h => ?_) (fun h => ?_)) <;> first | contradiction | (subst h; conv => whnf) | (conv => whnf))
    | ((with_reducible refine sp_d' (fun h => ?_) (fun h => ?_)) <;> first | contradiction | (subst h; conv => whnf) | (conv => whnf))
    | ((with_reducible refine sp_eF ?_ ?_); decide; conv => whnf)
    | ((with_reducible refine sp_eT ?_); conv => whnf)
    | ((with_reducible refine sp_e (fun h => ?_) (fun h => ?_)) <;> first | contradiction | (subst h; conv => whnf) | (conv => whnf))
    | ((with_reducible refine sp_e' (fun h => ?_) (fun h => ?_)) <;> first | contradiction | (subst h; conv => whnf) | (conv => whnf))
    | ((with_reducible refine sp_n (fun h => ?_) (fun h => ?_)) <;> first | contradiction | (subst h; conv => whnf) | (conv => whnf))
    | ((with_reducible refine sp_n' (fun h => ?_) (fun h => ?_)) <;> first | contradiction | (subst h; conv => whnf) | (conv => whnf))
    | ((with_reducible refine sp_nb (fun h => ?_) (fun h => ?_)) <;> first | (exact Bool.noConfusion (Eq.trans (Eq.symm h) (show _ = true by with_reducible assumption))) | (exact Bool.noConfusion (Eq.trans (Eq.symm (show _ = false by with_reducible assumption)) h)) | (conv => whnf))
    | ((with_reducible refine sp_nb' (fun h => ?_) (fun h => ?_)) <;> first | (exact Bool.noConfusion (Eq.trans (Eq.symm h) (show _ = true by with_reducible assumption))) | (exact Bool.noConfusion (Eq.trans (Eq.symm (show _ = false by with_reducible assumption)) h)) | (conv => whnf))
    | ((with_reducible refine sp_b (fun h => ?_) (fun h => ?_)) <;> first | (exact Bool.noConfusion (Eq.trans (Eq.symm h) (show _ = true by with_reducible assumption))) | (exact Bool.noConfusion (Eq.trans (Eq.symm (show _ = false by with_reducible assumption)) h)) | (conv => whnf))
    | ((with_reducible refine sp_b' (fun h => ?_) (fun h => ?_)) <;> first | (exact Bool.noConfusion (Eq.trans (Eq.symm h) (show _ = true by with_reducible assumption))) | (exact Bool.noConfusion (Eq.trans (Eq.symm (show _ = false by with_reducible assumption)) h)) | (conv => whnf))
    | (refine ⟨(rfl : nodupB _ = true), rfl, ?_⟩; conv => whnf)
    | (with_reducible refine bnd2 ?_ ?_)
    | (with_reducible refine bnd2' ?_ ?_)
    | (with_reducible refine bndN ?_ ?_)
    | ((with_reducible refine and_of ?_ ?_); conv => whnf)
    | (refine Exists.intro ({x : Int × List UInt8 // FmtI n0 x.1 x.2}) (Exists.intro (fun ⟨⟨n, l⟩, hI⟩ => mkS Tryd.f18.ntmps [(0, .dat (.i n)), (3, .dat (.str ⟨l.toArray⟩))] []) (Exists.intro (fun ⟨⟨n, l⟩, hI⟩ => n.toNat) (Exists.intro ⟨⟨n0, []⟩, fmtI_0 h0⟩ (And.intro (SubP.sub (σ := []) ⟨⟨rfl, rfl, rfl⟩, ⟨(wk_dat ?_), (wk_dat ?_), trivial⟩, trivial⟩) (fun ⟨⟨n, l⟩, hI⟩ => ?_))))); rotate_right; conv => whnf)
    | (refine Exists.intro (⟨⟨n / 10, UInt8.ofNat (48 + (n % 10).toNat) :: l⟩, ?_⟩ : {x : Int × List UInt8 // FmtI n0 x.1 x.2}) (And.intro ?_ (SubP.sub (σ := []) ⟨⟨rfl, rfl, rfl⟩, ⟨(wk_dat ?_), (wk_dat ?_), trivial⟩, trivial⟩)))
    | ((with_reducible show awpOps _ _ _ _ _ _); conv => whnf)
    | (intro h; conv => whnf))
  all_goals (repeat (clear hK; clear K1))
  all_goals first
    | (with_reducible assumption)
    | (with_reducible rfl)
    | (exfalso; omega)
    | exact fmtI_s hI (by with_reducible assumption)
    | exact fmt_s hI
    | exact fmt_q hI h1
    | exact fmt_end hI (by with_reducible assumption)
    | exact (fmt_end hI (by with_reducible assumption)).symm
    | exact fmt_b (fmt_len hI h1)
    | exact fmt_mu hI (by with_reducible assumption)
    | rfl
    | omega
    | (dsimp only; omega)
    | skip
set_option maxRecDepth 100000 in
theorem s_l05RegName (n : Int) (h0 : 0 ≤ n) (h1 : n < 1000) : CallsV Tryd.prog 16 [.dat (.i n)] (.dat (.str (regS n))) := by
  refine CallsV.of_awp tauOk mixOk Tryd.func16 rfl rfl rfl ?_
  conv => whnf
  repeat' (first
    | ((with_reducible refine Alt.l ?_); conv => whnf)
    | ((with_reducible refine fun (K1 : AX → AState → Prop) hK => ?_); conv => whnf)
    | ((with_reducible show K1 _ _); subst hK; conv => whnf)
    | (with_reducible exact rfl)
    | ((with_reducible refine sp_T ?_); conv => whnf)
    | ((with_reducible refine sp_F ?_); conv => whnf)
    | ((with_reducible refine sp_T' ?_); conv => whnf)
    | ((with_reducible refine sp_F' ?_); conv => whnf)
    | ((with_reducible refine sp_dF ?_ ?_); decide; conv => whnf)
    | ((with_reducible refine sp_dT ?_ ?_); decide; conv => whnf)
    | ((with_reducible refine sp_d (fun h => ?_) (fun h => ?_)) <;> first | contradiction | (subst h; conv => whnf) | (conv => whnf))
    | ((with_reducible refine sp_d' (fun h => ?_) (fun h => ?_)) <;> first | contradiction | (subst h; conv => whnf) | (conv => whnf))
    | ((with_reducible refine sp_eF ?_ ?_); decide; conv => whnf)
    | ((with_reducible refine sp_eT ?_); conv => whnf)
    | ((with_reducible refine sp_e (fun h => ?_) (fun h => ?_)) <;> first | contradiction | (subst h; conv => whnf) | (conv => whnf))
    | ((with_reducible refine sp_e' (fun h => ?_) (fun h => ?_)) <;> first | contradiction | (subst h; conv => whnf) | (conv => whnf))
    | ((with_reducible refine sp_n (fun h => ?_) (fun h => ?_)) <;> first | contradiction | (subst h; conv => whnf) | (conv => whnf))
    | ((with_reducible refine sp_n' (fun h => ?_) (fun h => ?_)) <;> first | contradiction | (subst h; conv => whnf) | (conv => whnf))
    | ((with_reducible refine sp_nb (fun h => ?_) (fun h => ?_)) <;> first | (exact Bool.noConfusion (Eq.trans (Eq.symm h) (show _ = true by with_reducible assumption))) | (exact Bool.noConfusion (Eq.trans (Eq.symm (show _ = false by with_reducible assumption)) h)) | (conv => whnf))
    | ((with_reducible refine sp_nb' (fun h => ?_) (fun h => ?_)) <;> first | (exact Bool.noConfusion (Eq.trans (Eq.symm h) (show _ = true by with_reducible assumption))) | (exact Bool.noConfusion (Eq.trans (Eq.symm (show _ = false by with_reducible assumption)) h)) | (conv => whnf))
    | ((with_reducible refine sp_b (fun h => ?_) (fun h => ?_)) <;> first | (exact Bool.noConfusion (Eq.trans (Eq.symm h) (show _ = true by with_reducible assumption))) | (exact Bool.noConfusion (Eq.trans (Eq.symm (show _ = false by with_reducible assumption)) h)) | (conv => whnf))
    | ((with_reducible refine sp_b' (fun h => ?_) (fun h => ?_)) <;> first | (exact Bool.noConfusion (Eq.trans (Eq.symm h) (show _ = true by with_reducible assumption))) | (exact Bool.noConfusion (Eq.trans (Eq.symm (show _ = false by with_reducible assumption)) h)) | (conv => whnf))
    | (refine ⟨(rfl : nodupB _ = true), rfl, ?_⟩; conv => whnf)
    | (with_reducible refine bnd2 ?_ ?_)
    | (with_reducible refine bnd2' ?_ ?_)
    | (with_reducible refine bndN ?_ ?_)
    | ((with_reducible refine and_of ?_ ?_); conv => whnf)
    | ((with_reducible refine pcI (g := 18) ?_); refine ⟨_, s_FormatInt (h0 := ?_) (h1 := ?_) .., rfl, ?_⟩; rotate_right; conv => whnf)
    | ((with_reducible show Exists _); refine Exists.intro _ (And.intro (s_FormatInt (h0 := ?_) (h1 := ?_) ..) (And.intro rfl ?_)); rotate_right; conv => whnf)
    | ((with_reducible show awpOps _ _ _ _ _ _); conv => whnf)
    | (intro h; conv => whnf))
  all_goals (repeat (clear hK; clear K1))
  all_goals first | (with_reducible assumption) | rfl | omega | (have q := itoa_len h0 h1; have hm : maxLen = 9223372036854775807 := rfl; show 1 + (itoaS n).size ≤ maxLen; omega) | skip
theorem word_at {k : Int} (h0 : 1 ≤ k) (h1 : k ≤ 6) : Dat.str (factW k) = Dat.str (([⟨#[]⟩, ⟨#[105, 115]⟩, ⟨#[115, 97, 109, 101]⟩, ⟨#[109, 111, 115, 116]⟩, ⟨#[98, 105, 116]⟩, ⟨#[115, 117, 109]⟩, ⟨#[111, 114, 100, 101, 114]⟩] : List ByteArray).getD k.toNat ⟨#[]⟩) := by
  have : k = 1 ∨ k = 2 ∨ k = 3 ∨ k = 4 ∨ k = 5 ∨ k = 6 := by omega
  rcases this with rfl | rfl | rfl | rfl | rfl | rfl <;> rfl
set_option maxRecDepth 100000 in
theorem s_l08Word (k : Int) (h0 : 1 ≤ k) (h1 : k ≤ 6) : CallsV Tryd.prog 17 [.dat (.i k)] (.dat (.str (factW k))) := by
  refine CallsV.of_awp tauOk mixOk Tryd.func17 rfl rfl rfl ?_
  conv => whnf
  repeat' (first
    | ((with_reducible refine Alt.l ?_); conv => whnf)
    | ((with_reducible refine fun (K1 : AX → AState → Prop) hK => ?_); conv => whnf)
    | ((with_reducible show K1 _ _); subst hK; conv => whnf)
    | (with_reducible exact rfl)
    | ((with_reducible refine sp_T ?_); conv => whnf)
    | ((with_reducible refine sp_F ?_); conv => whnf)
    | ((with_reducible refine sp_T' ?_); conv => whnf)
    | ((with_reducible refine sp_F' ?_); conv => whnf)
    | ((with_reducible refine sp_dF ?_ ?_); decide; conv => whnf)
    | ((with_reducible refine sp_dT ?_ ?_); decide; conv => whnf)
    | ((with_reducible refine sp_d (fun h => ?_) (fun h => ?_)) <;> first | contradiction | (subst h; conv => whnf) | (conv => whnf))
    | ((with_reducible refine sp_d' (fun h => ?_) (fun h => ?_)) <;> first | contradiction | (subst h; conv => whnf) | (conv => whnf))
    | ((with_reducible refine sp_eF ?_ ?_); decide; conv => whnf)
    | ((with_reducible refine sp_eT ?_); conv => whnf)
    | ((with_reducible refine sp_e (fun h => ?_) (fun h => ?_)) <;> first | contradiction | (subst h; conv => whnf) | (conv => whnf))
    | ((with_reducible refine sp_e' (fun h => ?_) (fun h => ?_)) <;> first | contradiction | (subst h; conv => whnf) | (conv => whnf))
    | ((with_reducible refine sp_n (fun h => ?_) (fun h => ?_)) <;> first | contradiction | (subst h; conv => whnf) | (conv => whnf))
    | ((with_reducible refine sp_n' (fun h => ?_) (fun h => ?_)) <;> first | contradiction | (subst h; conv => whnf) | (conv => whnf))
    | ((with_reducible refine sp_nb (fun h => ?_) (fun h => ?_)) <;> first | (exact Bool.noConfusion (Eq.trans (Eq.symm h) (show _ = true by with_reducible assumption))) | (exact Bool.noConfusion (Eq.trans (Eq.symm (show _ = false by with_reducible assumption)) h)) | (conv => whnf))
    | ((with_reducible refine sp_nb' (fun h => ?_) (fun h => ?_)) <;> first | (exact Bool.noConfusion (Eq.trans (Eq.symm h) (show _ = true by with_reducible assumption))) | (exact Bool.noConfusion (Eq.trans (Eq.symm (show _ = false by with_reducible assumption)) h)) | (conv => whnf))
    | ((with_reducible refine sp_b (fun h => ?_) (fun h => ?_)) <;> first | (exact Bool.noConfusion (Eq.trans (Eq.symm h) (show _ = true by with_reducible assumption))) | (exact Bool.noConfusion (Eq.trans (Eq.symm (show _ = false by with_reducible assumption)) h)) | (conv => whnf))
    | ((with_reducible refine sp_b' (fun h => ?_) (fun h => ?_)) <;> first | (exact Bool.noConfusion (Eq.trans (Eq.symm h) (show _ = true by with_reducible assumption))) | (exact Bool.noConfusion (Eq.trans (Eq.symm (show _ = false by with_reducible assumption)) h)) | (conv => whnf))
    | (refine ⟨(rfl : nodupB _ = true), rfl, ?_⟩; conv => whnf)
    | (with_reducible refine bnd2 ?_ ?_)
    | (with_reducible refine bnd2' ?_ ?_)
    | (with_reducible refine bndN ?_ ?_)
    | ((with_reducible refine and_of ?_ ?_); conv => whnf)
    | ((with_reducible show awpOps _ _ _ _ _ _); conv => whnf)
    | (intro h; conv => whnf))
  all_goals (repeat (clear hK; clear K1))
  all_goals first | (with_reducible assumption) | exact word_at h0 h1 | omega | (dsimp only; omega) | (simp; omega) | rfl | skip
/-! ### words are joined -/
def joinTo (l : List ByteArray) (b : ByteArray) : Nat → ByteArray
  | 0 => ⟨#[]⟩
  | k + 1 => (if k = 0 then joinTo l b k else joinTo l b k ++ b) ++ l.getD k ⟨#[]⟩
theorem join_len {l : List ByteArray} {b : ByteArray} (hl : ∀ x ∈ l, x.size ≤ 100) (hb : b.size ≤ 1) : ∀ k, k ≤ l.length → (joinTo l b k).size ≤ 101 * k
  | 0, _ => by show 0 ≤ _; omega
  | k + 1, h => by
    have ih := join_len hl hb k (by omega)
    have hx : (l.getD k ⟨#[]⟩).size ≤ 100 := by
      rw [List.getD_eq_getElem?_getD, List.getElem?_eq_getElem (show k < l.length by omega)]; exact hl _ (List.getElem_mem _)
    rw [joinTo, ByteArray.size_append]
    split
    · omega
    · rw [ByteArray.size_append]; omega
theorem join_0 {l : List ByteArray} {b : ByteArray} {k : Nat} (h : ¬ (k : Int) > 0) : Dat.str (joinTo l b (k + 1)) = Dat.str (joinTo l b k ++ l.getD (k : Int).toNat K.strs.dflt) := by
  rw [joinTo, if_pos (by omega), Int.toNat_natCast]; rfl
theorem join_s {l : List ByteArray} {b : ByteArray} {k : Nat} (h : (k : Int) > 0) : Dat.str (joinTo l b (k + 1)) = Dat.str (joinTo l b k ++ b ++ l.getD (k : Int).toNat K.strs.dflt) := by
  rw [joinTo, if_neg (by omega), Int.toNat_natCast]; rfl
theorem join_x {l : List ByteArray} (hs : ∀ x ∈ l, x.size ≤ 100) {k : Nat} (h : (k : Int) < l.length) : (l.getD (k : Int).toNat K.strs.dflt).size ≤ 100 := by
  rw [Int.toNat_natCast, List.getD_eq_getElem?_getD, List.getElem?_eq_getElem (show k < l.length by omega)]; exact hs _ (List.getElem_mem _)
theorem join_e {l : List ByteArray} {b : ByteArray} {k : Nat} (hk : k ≤ l.length) (h : ¬ (k : Int) < l.length) : Dat.str (joinTo l b l.length) = Dat.str (joinTo l b k) := by rw [show k = l.length from by omega]
set_option maxHeartbeats 2000000 in
set_option maxRecDepth 100000 in
theorem s_Join (l : List ByteArray) (b : ByteArray) (hl : l.length ≤ 10) (hs : ∀ x ∈ l, x.size ≤ 100) (hb : b.size ≤ 1) : CallsV Tryd.prog 19 [.dat (.seq .strs l), .dat (.str b)] (.dat (.str (joinTo l b l.length))) := by
  refine CallsV.of_awp tauOk mixOk Tryd.func19 rfl rfl rfl ?_
  conv => whnf
  repeat' (first
    | ((with_reducible refine Alt.l ?_); conv => whnf)
    | ((with_reducible refine fun (K1 : AX → AState → Prop) hK => ?_); conv => whnf)
    | ((with_reducible show K1 _ _); subst hK; conv => whnf)
    | (with_reducible exact rfl)
    | ((with_reducible refine sp_T ?_); conv => whnf)
    | ((with_reducible refine sp_F ?_); conv => whnf)
    | ((with_reducible refine sp_T' ?_); conv => whnf)
    | ((with_reducible refine sp_F' ?_); conv => whnf)
    | ((with_reducible refine sp_dF ?_ ?_); decide; conv => whnf)
    | ((with_reducible refine sp_dT ?_ ?_); decide; conv => whnf)
    | ((with_reducible refine sp_d (fun h => ?_) (fun h => ?_)) <;> first | contradiction | (subst h; conv => whnf) | (conv => whnf))
    | ((with_reducible refine sp_d' (fun h => ?_) (fun h => ?_)) <;> first | contradiction | (subst h; conv => whnf) | (conv => whnf))
    | ((with_reducible refine sp_eF ?_ ?_); decide; conv => whnf)
    | ((with_reducible refine sp_eT ?_); conv => whnf)
    | ((with_reducible refine sp_e (fun h => ?_) (fun h => ?_)) <;> first | contradiction | (subst h; conv => whnf) | (conv => whnf))
    | ((with_reducible refine sp_e' (fun h => ?_) (fun h => ?_)) <;> first | contradiction | (subst h; conv => whnf) | (conv => whnf))
    | ((with_reducible refine sp_n (fun h => ?_) (fun h => ?_)) <;> first | contradiction | (subst h; conv => whnf) | (conv => whnf))
    | ((with_reducible refine sp_n' (fun h => ?_) (fun h => ?_)) <;> first | contradiction | (subst h; conv => whnf) | (conv => whnf))
    | ((with_reducible refine sp_nb (fun h => ?_) (fun h => ?_)) <;> first | (exact Bool.noConfusion (Eq.trans (Eq.symm h) (show _ = true by with_reducible assumption))) | (exact Bool.noConfusion (Eq.trans (Eq.symm (show _ = false by with_reducible assumption)) h)) | (conv => whnf))
    | ((with_reducible refine sp_nb' (fun h => ?_) (fun h => ?_)) <;> first | (exact Bool.noConfusion (Eq.trans (Eq.symm h) (show _ = true by with_reducible assumption))) | (exact Bool.noConfusion (Eq.trans (Eq.symm (show _ = false by with_reducible assumption)) h)) | (conv => whnf))
    | ((with_reducible refine sp_b (fun h => ?_) (fun h => ?_)) <;> first | (exact Bool.noConfusion (Eq.trans (Eq.symm h) (show _ = true by with_reducible assumption))) | (exact Bool.noConfusion (Eq.trans (Eq.symm (show _ = false by with_reducible assumption)) h)) | (conv => whnf))
    | ((with_reducible refine sp_b' (fun h => ?_) (fun h => ?_)) <;> first | (exact Bool.noConfusion (Eq.trans (Eq.symm h) (show _ = true by with_reducible assumption))) | (exact Bool.noConfusion (Eq.trans (Eq.symm (show _ = false by with_reducible assumption)) h)) | (conv => whnf))
    | (refine ⟨(rfl : nodupB _ = true), rfl, ?_⟩; conv => whnf)
    | (with_reducible refine bnd2 ?_ ?_)
    | (with_reducible refine bnd2' ?_ ?_)
    | (with_reducible refine bndN ?_ ?_)
    | ((with_reducible refine and_of ?_ ?_); conv => whnf)
    | (refine Exists.intro ({k : Nat // k ≤ l.length}) (Exists.intro (fun ⟨k, hk⟩ => mkS Tryd.f19.ntmps [(1, .dat (.str b)), (5, .dat (.str (joinTo l b k))), (8, .dat (.seq .strs l)), (9, .dat (.i l.length)), (10, .dat (.i k))] []) (Exists.intro (fun ⟨k, hk⟩ => l.length - k) (Exists.intro ⟨0, Nat.zero_le _⟩ (And.intro (SubP.sub (σ := []) ⟨⟨rfl, rfl, rfl⟩, ⟨(wk_dat ?_), (wk_dat ?_), (wk_dat ?_), (wk_dat ?_), (wk_dat ?_), trivial⟩, trivial⟩) (fun ⟨k, hk⟩ => ?_))))); rotate_right; conv => whnf)
    | (refine Exists.intro (⟨k + 1, ?_⟩ : {k : Nat // k ≤ l.length}) (And.intro ?_ (SubP.sub (σ := []) ⟨⟨rfl, rfl, rfl⟩, ⟨(wk_dat ?_), (wk_dat ?_), (wk_dat ?_), (wk_dat ?_), (wk_dat ?_), trivial⟩, trivial⟩)))
    | ((with_reducible show awpOps _ _ _ _ _ _); conv => whnf)
    | (intro h; conv => whnf))
  all_goals (repeat (clear hK; clear K1))
  all_goals first
    | (with_reducible assumption)
    | (with_reducible rfl)
    | exact join_0 (by with_reducible assumption)
    | exact join_s (by with_reducible assumption)
    | exact join_e hk (by with_reducible assumption)
    | exact (join_e hk (by with_reducible assumption)).symm
    | (have q := join_len hs hb k hk; have hm : maxLen = 9223372036854775807 := rfl; have q2 := join_x hs (k := k) (by with_reducible assumption); omega)
    | (have q := join_len hs hb k hk; have hm : maxLen = 9223372036854775807 := rfl; have q2 := join_x hs (k := k) (by with_reducible assumption); rw [ByteArray.size_append]; omega)
    | (have q := join_len hs hb k hk; have hm : maxLen = 9223372036854775807 := rfl; omega)
    | exact congrArg (Dat.int .i64) (wrap_id (by omega) (by omega)).symm
    | exact (rfl : Dat.i ((0 : Nat) : Int) = Dat.int .i64 0)
    | omega
    | (dsimp only; omega)
    | rfl
    | skip
end Vg
