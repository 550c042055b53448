/- Operations on words by terms: contracts. Conditions: the term is good, and its kids are constants. -/
import Derived.Test.YtgmpfaennbojaaaGreatTermV
import Derived.Test.YtgmpfaennbojaaaGreatRg
namespace Vg
open Go Go.Proofs
theorem cut_no1 {w a low n : Int} (h : wordP w a = false) : cutP w a low n = -1 := if_neg fun k => by rw [k.1] at h; cases h
theorem cut_no2 {w a low n : Int} (h : ¬ (0 ≤ low ∧ 1 ≤ n ∧ n ≤ w - low)) : cutP w a low n = -1 := if_neg fun k => h k.2
theorem cut_yes {w a low n : Int} (h : wordP w a = true) (h2 : 0 ≤ low ∧ 1 ≤ n ∧ n ≤ w - low) : cutP w a low n = wordOfP n (Int.fdiv a (2 ^ min low.toNat IntKind.i64.bits)) := if_pos ⟨h, h2⟩
theorem join_no1 {w a v b : Int} (h : wordP w a = false) : joinP w a v b = -1 := if_neg fun k => by rw [k.1] at h; cases h
theorem join_no2 {w a v b : Int} (h : wordP v b = false) : joinP w a v b = -1 := if_neg fun k => by rw [k.2.1] at h; cases h
theorem join_no3 {w a v b : Int} (h : ¬ w + v ≤ 16) : joinP w a v b = -1 := if_neg fun k => h k.2.2
theorem join_yes {w a v b : Int} (ha : wordP w a = true) (hb : wordP v b = true) (h : w + v ≤ 16) : IntKind.i64.wrap (IntKind.i64.wrap (a * 2 ^ min v.toNat IntKind.i64.bits) + b) = joinP w a v b := by
  obtain ⟨hw, a0, a1⟩ := word_lo ha
  obtain ⟨hv, b0, b1⟩ := word_lo hb
  have w1 := inP_b hw
  have v1 := inP_b hv
  have em : min v.toNat IntKind.i64.bits = v.toNat := by
    have : IntKind.i64.bits = 64 := rfl
    omega
  have hp : (0 : Int) < 2 ^ v.toNat := Int.pow_pos (by decide)
  have h1 : a * 2 ^ v.toNat ≤ 2 ^ w.toNat * 2 ^ v.toNat := Int.mul_le_mul_of_nonneg_right (by omega) (by omega)
  have h2 : (2 : Int) ^ w.toNat * 2 ^ v.toNat = 2 ^ (w + v).toNat := by
    rw [← Int.pow_add]
    congr 1
    omega
  have h3 : (2 : Int) ^ (w + v).toNat ≤ 65536 := (wf (w := w + v) (by simp [inP]; omega)).s2
  have h4 : (2 : Int) ^ v.toNat ≤ 65536 := (wf hv).s2
  have h0 : 0 ≤ a * 2 ^ v.toNat := Int.mul_nonneg a0 (by omega)
  rw [em, wrap_id (n := a * 2 ^ v.toNat) (by omega) (by omega), wrap_id (by omega) (by omega)]
  unfold joinP
  rw [if_pos ⟨ha, hb, h⟩]
theorem wid_no1 {w a n : Int} {s : Bool} (h : wordP w a = false) : widenP w a n s = -1 := if_neg fun k => by rw [k.1] at h; cases h
theorem wid_no2 {w a n : Int} {s : Bool} (h : ¬ (w ≤ n ∧ n ≤ 16)) : widenP w a n s = -1 := if_neg fun k => h k.2
theorem wid_T {w a n : Int} {s : Bool} (h : wordP w a = true) (h2 : w ≤ n ∧ n ≤ 16) (hs : s = true) : widenP w a n s = wordOfP n (signedP w a) := by unfold widenP; rw [if_pos ⟨h, h2⟩, if_pos hs]
theorem wid_F {w a n : Int} {s : Bool} (h : wordP w a = true) (h2 : w ≤ n ∧ n ≤ 16) (hs : s = false) : widenP w a n s = a := by unfold widenP; rw [if_pos ⟨h, h2⟩, if_neg (by rw [hs]; decide)]
set_option maxRecDepth 100000 in
theorem s_CutWord (w a low n : Int) (hl : low ≤ 1048576) : CallsV Tryz.prog 71 [.dat (.i w), .dat (.i a), .dat (.i low), .dat (.i n)] (.dat (.i (cutP w a low n))) := by
  refine CallsV.of_awp tauOk mixOk Tryz.func71 rfl rfl rfl ?_
  conv => whnf
  repeat' (first | ((with_reducible refine fun (K1 : AX → AState → Prop) hK => ?_); refine stR ⟨?_⟩) | ((with_reducible show K1 _ _); subst hK; conv => whnf) | (with_reducible exact rfl) | refine st0 ⟨?_⟩ | ((with_reducible refine SplS.mk (fun h => ?_) (fun h => ?_)) <;> first | exact ctA | (subst h; conv => whnf) | (conv => whnf)) | ((with_reducible refine SplB.mk (fun h => ?_) (fun h => ?_)) <;> first | exact ctR | (conv => whnf)) | ((with_reducible refine and_of ?_ ?_); conv => whnf) | ((with_reducible refine pcI (g := 37) ?_); refine ⟨_, s_WordOk .., rfl, ?_⟩; rotate_right; conv => whnf) | ((with_reducible show Exists _); refine Exists.intro _ (And.intro (s_WordOk ..) (And.intro rfl ?_)); rotate_right; conv => whnf) | ((with_reducible refine pcI (g := 91) ?_); refine ⟨_, s_WordOf .., rfl, ?_⟩; rotate_right; conv => whnf) | ((with_reducible show Exists _); refine Exists.intro _ (And.intro (s_WordOf ..) (And.intro rfl ?_)); rotate_right; conv => whnf) | (intro h; conv => whnf))
  all_goals (repeat (clear hK; clear K1))
  all_goals first | exact di_eq (cut_no1 (by with_reducible assumption)) | (have ha := (show wordP w a = true by with_reducible assumption); have hw := inP_b (word_lo ha).1; (try simp only [wrap_id (n := w - n) (by omega) (by omega)] at *); first | omega | exact di_eq (cut_no2 (by omega)) | exact di_eq (cut_yes ha (by omega))) | skip
set_option maxRecDepth 100000 in
theorem i_CutWord (w a low n : Int) (hl : low ≤ 1048576) : CallsV Tryz.prog 98 [.dat (.i w), .dat (.i a), .dat (.i low), .dat (.i n)] (.dat (.i (cutP w a low n))) := by
  refine CallsV.of_awp tauOk mixOk Tryz.func98 rfl rfl rfl ?_
  conv => whnf
  repeat' (first | ((with_reducible refine fun (K1 : AX → AState → Prop) hK => ?_); refine stR ⟨?_⟩) | ((with_reducible show K1 _ _); subst hK; conv => whnf) | (with_reducible exact rfl) | refine st0 ⟨?_⟩ | ((with_reducible refine SplS.mk (fun h => ?_) (fun h => ?_)) <;> first | exact ctA | (subst h; conv => whnf) | (conv => whnf)) | ((with_reducible refine SplB.mk (fun h => ?_) (fun h => ?_)) <;> first | exact ctR | (conv => whnf)) | ((with_reducible refine and_of ?_ ?_); conv => whnf) | ((with_reducible refine pcI (g := 61) ?_); refine ⟨_, i_WordOk .., rfl, ?_⟩; rotate_right; conv => whnf) | ((with_reducible show Exists _); refine Exists.intro _ (And.intro (i_WordOk ..) (And.intro rfl ?_)); rotate_right; conv => whnf) | (intro h; conv => whnf))
  all_goals (repeat (clear hK; clear K1))
  all_goals first | exact di_eq (cut_no1 (by with_reducible assumption)) | (have ha := (show wordP w a = true by with_reducible assumption); have hw := inP_b (word_lo ha).1; (try simp only [wrap_id (n := w - low) (by omega) (by omega)] at *); first | (rw [wrapU_id (by omega) (by omega)]; omega) | exact di_eq (cut_no2 (by omega)) | (have hn : inP n 1 16 = true := (by simp [inP]; omega); refine di_eq ?_; rw [cut_yes ha (by omega), wordOf_yes hn, uw hn, wrapU_id (n := low) (by omega) (by omega)])) | skip
set_option maxRecDepth 100000 in
theorem s_JoinWords (w a v b : Int) : CallsV Tryz.prog 70 [.dat (.i w), .dat (.i a), .dat (.i v), .dat (.i b)] (.dat (.i (joinP w a v b))) := by
  refine CallsV.of_awp tauOk mixOk Tryz.func70 rfl rfl rfl ?_
  conv => whnf
  repeat' (first | ((with_reducible refine fun (K1 : AX → AState → Prop) hK => ?_); refine stR ⟨?_⟩) | ((with_reducible show K1 _ _); subst hK; conv => whnf) | (with_reducible exact rfl) | refine st0 ⟨?_⟩ | ((with_reducible refine SplS.mk (fun h => ?_) (fun h => ?_)) <;> first | exact ctA | (subst h; conv => whnf) | (conv => whnf)) | ((with_reducible refine SplB.mk (fun h => ?_) (fun h => ?_)) <;> first | exact ctR | (conv => whnf)) | ((with_reducible refine and_of ?_ ?_); conv => whnf) | ((with_reducible refine pcI (g := 37) ?_); refine ⟨_, s_WordOk .., rfl, ?_⟩; rotate_right; conv => whnf) | ((with_reducible show Exists _); refine Exists.intro _ (And.intro (s_WordOk ..) (And.intro rfl ?_)); rotate_right; conv => whnf) | (intro h; conv => whnf))
  all_goals (repeat (clear hK; clear K1))
  all_goals first | exact di_eq (join_no1 (by with_reducible assumption)) | exact di_eq (join_no2 (by with_reducible assumption)) | (have ha := (show wordP w a = true by with_reducible assumption); have hb := (show wordP v b = true by with_reducible assumption); have hw := inP_b (word_lo ha).1; have hv := inP_b (word_lo hb).1; (try simp only [wrap_id (n := w + v) (by omega) (by omega)] at *); first | omega | exact di_eq (join_no3 (by omega)) | exact di_eq (join_yes ha hb (by omega)).symm) | skip
set_option maxRecDepth 100000 in
theorem i_JoinWords (w a v b : Int) : CallsV Tryz.prog 100 [.dat (.i w), .dat (.i a), .dat (.i v), .dat (.i b)] (.dat (.i (joinP w a v b))) := by
  refine CallsV.of_awp tauOk mixOk Tryz.func100 rfl rfl rfl ?_
  conv => whnf
  repeat' (first | ((with_reducible refine fun (K1 : AX → AState → Prop) hK => ?_); refine stR ⟨?_⟩) | ((with_reducible show K1 _ _); subst hK; conv => whnf) | (with_reducible exact rfl) | refine st0 ⟨?_⟩ | ((with_reducible refine SplS.mk (fun h => ?_) (fun h => ?_)) <;> first | exact ctA | (subst h; conv => whnf) | (conv => whnf)) | ((with_reducible refine SplB.mk (fun h => ?_) (fun h => ?_)) <;> first | exact ctR | (conv => whnf)) | ((with_reducible refine and_of ?_ ?_); conv => whnf) | ((with_reducible refine pcI (g := 61) ?_); refine ⟨_, i_WordOk .., rfl, ?_⟩; rotate_right; conv => whnf) | ((with_reducible show Exists _); refine Exists.intro _ (And.intro (i_WordOk ..) (And.intro rfl ?_)); rotate_right; conv => whnf) | (intro h; conv => whnf))
  all_goals (repeat (clear hK; clear K1))
  all_goals first | exact di_eq (join_no1 (by with_reducible assumption)) | exact di_eq (join_no2 (by with_reducible assumption)) | (have ha := (show wordP w a = true by with_reducible assumption); have hb := (show wordP v b = true by with_reducible assumption); have hw := inP_b (word_lo ha).1; have hv := inP_b (word_lo hb).1; (try simp only [wrap_id (n := w + v) (by omega) (by omega)] at *); first | (rw [uw (word_lo hb).1]; omega) | exact di_eq (join_no3 (by omega)) | (refine di_eq ?_; rw [uw (word_lo hb).1]; exact (join_yes ha hb (by omega)).symm)) | skip
set_option maxRecDepth 100000 in
theorem s_WidenWord (w a n : Int) (s : Bool) : CallsV Tryz.prog 72 [.dat (.i w), .dat (.i a), .dat (.i n), .dat (.bool s)] (.dat (.i (widenP w a n s))) := by
  refine CallsV.of_awp tauOk mixOk Tryz.func72 rfl rfl rfl ?_
  conv => whnf
  repeat' (first | ((with_reducible refine fun (K1 : AX → AState → Prop) hK => ?_); refine stR ⟨?_⟩) | ((with_reducible show K1 _ _); subst hK; conv => whnf) | (with_reducible exact rfl) | refine st0 ⟨?_⟩ | ((with_reducible refine SplS.mk (fun h => ?_) (fun h => ?_)) <;> first | exact ctA | (subst h; conv => whnf) | (conv => whnf)) | ((with_reducible refine SplB.mk (fun h => ?_) (fun h => ?_)) <;> first | exact ctR | (conv => whnf)) | ((with_reducible refine pcI (g := 37) ?_); refine ⟨_, s_WordOk .., rfl, ?_⟩; rotate_right; conv => whnf) | ((with_reducible show Exists _); refine Exists.intro _ (And.intro (s_WordOk ..) (And.intro rfl ?_)); rotate_right; conv => whnf) | ((with_reducible refine pcI (g := 91) ?_); refine ⟨_, s_WordOf .., rfl, ?_⟩; rotate_right; conv => whnf) | ((with_reducible show Exists _); refine Exists.intro _ (And.intro (s_WordOf ..) (And.intro rfl ?_)); rotate_right; conv => whnf) | ((with_reducible refine pcI (g := 92) ?_); refine ⟨_, s_SignedOf .., rfl, ?_⟩; rotate_right; conv => whnf) | ((with_reducible show Exists _); refine Exists.intro _ (And.intro (s_SignedOf ..) (And.intro rfl ?_)); rotate_right; conv => whnf) | (intro h; conv => whnf))
  all_goals (repeat (clear hK; clear K1))
  all_goals first | exact di_eq (wid_no1 (by with_reducible assumption)) | exact di_eq (wid_no2 (by omega)) | exact di_eq (wid_T (by with_reducible assumption) (by omega) (by with_reducible assumption)) | exact di_eq (wid_F (by with_reducible assumption) (by omega) (by with_reducible assumption)) | skip
set_option maxRecDepth 100000 in
theorem i_WidenWord (w a n : Int) (s : Bool) : CallsV Tryz.prog 99 [.dat (.i w), .dat (.i a), .dat (.i n), .dat (.bool s)] (.dat (.i (widenP w a n s))) := by
  refine CallsV.of_awp tauOk mixOk Tryz.func99 rfl rfl rfl ?_
  conv => whnf
  repeat' (first | ((with_reducible refine fun (K1 : AX → AState → Prop) hK => ?_); refine stR ⟨?_⟩) | ((with_reducible show K1 _ _); subst hK; conv => whnf) | (with_reducible exact rfl) | refine st0 ⟨?_⟩ | ((with_reducible refine SplS.mk (fun h => ?_) (fun h => ?_)) <;> first | exact ctA | (subst h; conv => whnf) | (conv => whnf)) | ((with_reducible refine SplB.mk (fun h => ?_) (fun h => ?_)) <;> first | exact ctR | (conv => whnf)) | ((with_reducible refine pcI (g := 61) ?_); refine ⟨_, i_WordOk .., rfl, ?_⟩; rotate_right; conv => whnf) | ((with_reducible show Exists _); refine Exists.intro _ (And.intro (i_WordOk ..) (And.intro rfl ?_)); rotate_right; conv => whnf) | ((with_reducible refine pcI (g := 78) ?_); refine ⟨_, i_isWidth .., rfl, ?_⟩; rotate_right; conv => whnf) | ((with_reducible show Exists _); refine Exists.intro _ (And.intro (i_isWidth ..) (And.intro rfl ?_)); rotate_right; conv => whnf) | ((with_reducible refine pcI (g := 108) ?_); refine ⟨_, i_WordOf .., rfl, ?_⟩; rotate_right; conv => whnf) | ((with_reducible show Exists _); refine Exists.intro _ (And.intro (i_WordOf ..) (And.intro rfl ?_)); rotate_right; conv => whnf) | ((with_reducible refine pcI (g := 109) ?_); refine ⟨_, i_SignedOf .., rfl, ?_⟩; rotate_right; conv => whnf) | ((with_reducible show Exists _); refine Exists.intro _ (And.intro (i_SignedOf ..) (And.intro rfl ?_)); rotate_right; conv => whnf) | (intro h; conv => whnf))
  all_goals (repeat (clear hK; clear K1))
  all_goals first | exact di_eq (wid_no1 (by with_reducible assumption)) | (simp only [inP, Bool.and_eq_true, Bool.and_eq_false_iff, decide_eq_true_eq, decide_eq_false_iff_not] at *; first | exact di_eq (wid_no2 (by have := inP_b (word_lo (show wordP w a = true by with_reducible assumption)).1; omega)) | exact di_eq (wid_T (by with_reducible assumption) (by omega) (by with_reducible assumption)) | exact di_eq (wid_F (by with_reducible assumption) (by omega) (by with_reducible assumption))) | skip
set_option maxRecDepth 100000 in
theorem i_evC (op w n : Int) (nm : ByteArray) (ks : List V.Term) (ho : op = 0) : CallsV Tryz.prog 84 [.agg [.dat (.i op), .dat (.i w), .dat (.i n), .dat (.str nm), .dat (.seq .terms ks)], .nilm] (.dat (.i n)) := by
  refine CallsV.of_awp tauOk mixOk Tryz.func84 rfl rfl rfl ?_
  conv => whnf
  repeat' (first | ((with_reducible refine fun (K1 : AX → AState → Prop) hK => ?_); refine stR ⟨?_⟩) | ((with_reducible show K1 _ _); subst hK; conv => whnf) | (with_reducible exact rfl) | refine st0 ⟨?_⟩ | ((with_reducible refine SplS.mk (fun h => ?_) (fun h => ?_)) <;> first | exact ctA | (subst h; conv => whnf) | (conv => whnf)) | ((with_reducible refine SplB.mk (fun h => ?_) (fun h => ?_)) <;> first | exact ctR | (conv => whnf)) | ((with_reducible refine and_of ?_ ?_); conv => whnf) | (intro h; conv => whnf))
  all_goals (repeat (clear hK; clear K1))
  all_goals first | rfl | contradiction | skip
section
variable {t : V.Term} {x : List Int}
theorem ap_u (ht : okT t = true) (ho : t.op = 1 ∨ t.op = 2) : apT t x = applyU t.op t.w (xAt x 0) := by unfold apT; rw [if_pos ho, fit_u ht ho]
theorem ap_b (ho : 3 ≤ t.op ∧ t.op ≤ 16) : apT t x = applyB t.op (k0 t).w (xAt x 0) (xAt x 1) := by unfold apT; rw [if_neg (by omega), if_pos ho]
theorem ap_i1 (ho : t.op = 17) (h : x.getD (Int.toNat 0) K.ints.dflt = 1) : apT t x = xAt x 1 := by unfold apT; rw [if_neg (by omega), if_neg (by omega), if_pos ho]; exact if_pos h
theorem ap_i2 (ho : t.op = 17) (h : ¬ x.getD (Int.toNat 0) K.ints.dflt = 1) : apT t x = xAt x 2 := by unfold apT; rw [if_neg (by omega), if_neg (by omega), if_pos ho]; exact if_neg h
theorem ap_j (ho : t.op = 18) : apT t x = joinP (k0 t).w (xAt x 0) (k1 t).w (xAt x 1) := by unfold apT; rw [if_neg (by omega), if_neg (by omega), if_neg (by omega), if_pos ho]
theorem ap_c (ho : t.op = 19) : apT t x = cutP (k0 t).w (xAt x 0) t.n t.w := by unfold apT; rw [if_neg (by omega), if_neg (by omega), if_neg (by omega), if_neg (by omega), if_pos ho]
theorem ap_g (ho : t.op = 20 ∨ t.op = 21) : apT t x = widenP (k0 t).w (xAt x 0) t.w (t.op == 21) := by unfold apT; rw [if_neg (by omega), if_neg (by omega), if_neg (by omega), if_neg (by omega), if_neg (by omega)]
theorem nums_at (ks : List V.Term) (i : Nat) : xAt (nums ks) i = (kAt ks i).n := by
  unfold xAt nums kAt
  rw [List.getD_eq_getElem?_getD, List.getD_eq_getElem?_getD, List.getElem?_map]
  cases ks[i]? <;> rfl
theorem allC_at {ks : List V.Term} {i : Nat} (h : allC ks = true) (hi : i < ks.length) : (kAt ks i).op = 0 := by
  have e : kAt ks i = ks[i] := by rw [kAt, List.getD_eq_getElem?_getD, List.getElem?_eq_getElem hi]; rfl
  rw [e]
  exact of_decide_eq_true (List.all_eq_true.1 h _ (List.getElem_mem hi))
theorem cut_n (ht : okT t = true) (ho : t.op = 19) : t.n ≤ 1048576 := by
  have h1 := fit_c ht ho
  have h2 := okT_w (ok0 ht (by omega))
  have h3 := okT_w ht
  omega
end
theorem di_eq' {a b : Int} (h : a = b) : Dat.i b = Dat.int .i64 a := congrArg Dat.i h.symm
section
variable {t : V.Term}
theorem va_u (ht : okT t = true) (ho : t.op = 1 ∨ t.op = 2) : applyU t.op (k0 t).w (k0 t).n = apT t (nums t.kids) := by rw [ap_u ht ho, nums_at, fit_u ht ho]
theorem va_b (ho : 3 ≤ t.op ∧ t.op ≤ 16) : applyB t.op (k0 t).w (k0 t).n (k1 t).n = apT t (nums t.kids) := by rw [ap_b ho, nums_at, nums_at]
theorem va_i1 (ho : t.op = 17) (h : (t.kids.getD (Int.toNat 0) K.terms.dflt).n = 1) : (k1 t).n = apT t (nums t.kids) := by rw [ap_i1 ho ((nums_at t.kids 0).trans h), nums_at]
theorem va_i2 (ho : t.op = 17) (h : ¬ (t.kids.getD (Int.toNat 0) K.terms.dflt).n = 1) : (k2 t).n = apT t (nums t.kids) := by rw [ap_i2 ho (fun e => h ((nums_at t.kids 0).symm.trans e)), nums_at]
theorem va_j (ho : t.op = 18) : joinP (k0 t).w (k0 t).n (k1 t).w (k1 t).n = apT t (nums t.kids) := by rw [ap_j ho, nums_at, nums_at]
theorem va_c (ho : t.op = 19) : cutP (k0 t).w (k0 t).n t.n t.w = apT t (nums t.kids) := by rw [ap_c ho, nums_at]
theorem va_g (ho : t.op = 20 ∨ t.op = 21) : widenP (k0 t).w (k0 t).n t.w (t.op == 21) = apT t (nums t.kids) := by rw [ap_g ho, nums_at]
end
set_option maxRecDepth 100000 in
theorem s_l02Apply (t : V.Term) (x : List Int) (ht : okT t = true) (ho : 1 ≤ t.op ∧ t.op ≤ 21) (hx : x.length = t.kids.length) : CallsV Tryz.prog 55 [.agg [.dat (.i t.op), .dat (.i t.w), .dat (.i t.n), .dat (.str t.name), .dat (.seq .terms t.kids)], .dat (.seq .ints x)] (.dat (.i (apT t x))) := by
  refine CallsV.of_awp tauOk mixOk Tryz.func55 rfl rfl rfl ?_
  conv => whnf
  repeat' (first | ((with_reducible refine fun (K1 : AX → AState → Prop) hK => ?_); refine stR ⟨?_⟩) | ((with_reducible show K1 _ _); subst hK; conv => whnf) | (with_reducible exact rfl) | refine st0 ⟨?_⟩ | ((with_reducible refine SplS.mk (fun h => ?_) (fun h => ?_)) <;> first | exact ctA | (subst h; conv => whnf) | (conv => whnf)) | ((with_reducible refine SplB.mk (fun h => ?_) (fun h => ?_)) <;> first | exact ctR | (conv => whnf)) | (with_reducible first | refine bnd2 ?_ ?_ | refine bnd2' ?_ ?_ | refine bndN ?_ ?_) | ((with_reducible refine and_of ?_ ?_); conv => whnf) | ((with_reducible refine pcI (g := 38) ?_); refine ⟨_, s_l01In .., rfl, ?_⟩; rotate_right; conv => whnf) | ((with_reducible show Exists _); refine Exists.intro _ (And.intro (s_l01In ..) (And.intro rfl ?_)); rotate_right; conv => whnf) | ((with_reducible refine pcI (g := 68) ?_); refine ⟨_, s_ApplyUnary .., rfl, ?_⟩; rotate_right; conv => whnf) | ((with_reducible show Exists _); refine Exists.intro _ (And.intro (s_ApplyUnary ..) (And.intro rfl ?_)); rotate_right; conv => whnf) | ((with_reducible refine pcI (g := 69) ?_); refine ⟨_, s_ApplyBinary .., rfl, ?_⟩; rotate_right; conv => whnf) | ((with_reducible show Exists _); refine Exists.intro _ (And.intro (s_ApplyBinary ..) (And.intro rfl ?_)); rotate_right; conv => whnf) | ((with_reducible refine pcI (g := 70) ?_); refine ⟨_, s_JoinWords .., rfl, ?_⟩; rotate_right; conv => whnf) | ((with_reducible show Exists _); refine Exists.intro _ (And.intro (s_JoinWords ..) (And.intro rfl ?_)); rotate_right; conv => whnf) | ((with_reducible refine pcI (g := 71) ?_); refine ⟨_, s_CutWord (hl := ?_) .., rfl, ?_⟩; rotate_right; conv => whnf) | ((with_reducible show Exists _); refine Exists.intro _ (And.intro (s_CutWord (hl := ?_) ..) (And.intro rfl ?_)); rotate_right; conv => whnf) | ((with_reducible refine pcI (g := 72) ?_); refine ⟨_, s_WidenWord .., rfl, ?_⟩; rotate_right; conv => whnf) | ((with_reducible show Exists _); refine Exists.intro _ (And.intro (s_WidenWord ..) (And.intro rfl ?_)); rotate_right; conv => whnf) | (intro h; conv => whnf))
  all_goals (repeat (clear hK; clear K1))
  all_goals (simp only [inP, Bool.and_eq_true, Bool.and_eq_false_iff, decide_eq_true_eq, decide_eq_false_iff_not] at *; have l1 := len_u ht; have l2 := len_b ht; have l3 := len_i ht; first | omega | exact cut_n ht (by omega) | exact di_eq (ap_u ht (by omega)) | exact di_eq (ap_b (by omega)) | exact di_eq (ap_i1 (by omega) (by with_reducible assumption)) | exact di_eq (ap_i2 (by omega) (by with_reducible assumption)) | exact di_eq (ap_j (by omega)) | exact di_eq (ap_c (by omega)) | exact di_eq (ap_g (by omega)) | skip)
set_option maxRecDepth 100000 in
theorem i_evA (t : V.Term) (ht : okT t = true) (ho : 1 ≤ t.op ∧ t.op ≤ 21) (hc : allC t.kids = true) : CallsV Tryz.prog 84 [.agg [.dat (.i t.op), .dat (.i t.w), .dat (.i t.n), .dat (.str t.name), .dat (.seq .terms t.kids)], .nilm] (.dat (.i (apT t (nums t.kids)))) := by
  refine CallsV.of_awp tauOk mixOk Tryz.func84 rfl rfl rfl ?_
  conv => whnf
  repeat' (first | ((with_reducible refine fun (K1 : AX → AState → Prop) hK => ?_); refine stR ⟨?_⟩) | ((with_reducible show K1 _ _); subst hK; conv => whnf) | (with_reducible exact rfl) | refine st0 ⟨?_⟩ | ((with_reducible refine SplS.mk (fun h => ?_) (fun h => ?_)) <;> first | exact ctA | (subst h; conv => whnf) | (conv => whnf)) | ((with_reducible refine SplB.mk (fun h => ?_) (fun h => ?_)) <;> first | exact ctR | (conv => whnf)) | (with_reducible first | refine bnd2 ?_ ?_ | refine bnd2' ?_ ?_ | refine bndN ?_ ?_) | ((with_reducible refine and_of ?_ ?_); conv => whnf) | ((with_reducible refine pcI (g := 84) ?_); refine ⟨_, i_evC (ho := ?_) .., rfl, ?_⟩; rotate_right; conv => whnf) | ((with_reducible show Exists _); refine Exists.intro _ (And.intro (i_evC (ho := ?_) ..) (And.intro rfl ?_)); rotate_right; conv => whnf) | ((with_reducible refine pcI (g := 97) ?_); refine ⟨_, i_ApplyUnary .., rfl, ?_⟩; rotate_right; conv => whnf) | ((with_reducible show Exists _); refine Exists.intro _ (And.intro (i_ApplyUnary ..) (And.intro rfl ?_)); rotate_right; conv => whnf) | ((with_reducible refine pcI (g := 98) ?_); refine ⟨_, i_CutWord (hl := ?_) .., rfl, ?_⟩; rotate_right; conv => whnf) | ((with_reducible show Exists _); refine Exists.intro _ (And.intro (i_CutWord (hl := ?_) ..) (And.intro rfl ?_)); rotate_right; conv => whnf) | ((with_reducible refine pcI (g := 99) ?_); refine ⟨_, i_WidenWord .., rfl, ?_⟩; rotate_right; conv => whnf) | ((with_reducible show Exists _); refine Exists.intro _ (And.intro (i_WidenWord ..) (And.intro rfl ?_)); rotate_right; conv => whnf) | ((with_reducible refine pcI (g := 100) ?_); refine ⟨_, i_JoinWords .., rfl, ?_⟩; rotate_right; conv => whnf) | ((with_reducible show Exists _); refine Exists.intro _ (And.intro (i_JoinWords ..) (And.intro rfl ?_)); rotate_right; conv => whnf) | ((with_reducible refine pcI (g := 101) ?_); refine ⟨_, i_ApplyBinary .., rfl, ?_⟩; rotate_right; conv => whnf) | ((with_reducible show Exists _); refine Exists.intro _ (And.intro (i_ApplyBinary ..) (And.intro rfl ?_)); rotate_right; conv => whnf) | (intro h; conv => whnf))
  all_goals (repeat (clear hK; clear K1))
  all_goals (have l1 := len_u ht; have l2 := len_b ht; have l3 := len_i ht; first | omega | exact cut_n ht (by omega) | exact allC_at hc (i := 0) (by omega) | exact allC_at hc (i := 1) (by omega) | exact allC_at hc (i := 2) (by omega) | exact di_eq'  (va_u ht (by omega)) | exact di_eq'  (va_b (by omega)) | exact di_eq'  (va_i1 (by omega) (by with_reducible assumption)) | exact di_eq'  (va_i2 (by omega) (by with_reducible assumption)) | exact di_eq'  (va_j (by omega)) | exact di_eq'  (va_c (by omega)) | exact di_eq'  (va_g (by omega)) | skip)
end Vg
