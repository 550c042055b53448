/- Terms are checked: contracts of the program's functions. No condition. -/
import Derived.Test.YtjlffejifadkiaaGreatDoorTermQ
import Derived.Test.YtjlffejifadkiaaGreatDoorRet
import Derived.Lib.Strings
namespace Vg
open Go Go.Proofs
set_option maxRecDepth 100000
set_option maxHeartbeats 40000000
theorem di_eq {a b : Int} (h : a = b) : Dat.i a = Dat.int .i64 b := congrArg (Dat.int .i64) h
theorem db_eq {a b : Bool} (h : a = b) : Dat.bool a = Dat.bool b := congrArg Dat.bool h
theorem str_eq {a b : ByteArray} (h : (a.toList == b.toList) = true) : a = b := by
  rw [Lib.toList_data, Lib.toList_data] at h
  have := eq_of_beq h
  exact ByteArray.ext (Array.ext' this)
theorem str_ne {a b : ByteArray} (h : (a.toList == b.toList) = false) : a ≠ b := fun e => by
  subst e
  have : (a.toList == a.toList) = true := beq_self_eq_true _
  rw [this] at h
  cases h
theorem str_e {a : ByteArray} (h : (a.toList == (⟨#[]⟩ : ByteArray).toList) = true) : a = ByteArray.empty := str_eq h
theorem ch_iff (i : Nat) (b : Int) : chOk i b = true ↔ (97 ≤ b ∧ b ≤ 122) ∨ (48 ≤ b ∧ b ≤ 57 ∧ 0 < i) := by
  simp [chOk, inP]
  omega
theorem name_s {s : ByteArray} {k : Nat} (h : qc3 s k = true) (hc : (97 ≤ qed s k ∧ qed s k ≤ 122) ∨ (48 ≤ qed s k ∧ qed s k ≤ 57 ∧ 0 < k)) : qc3 s (k + 1) = true := by
  rw [qc3, h, (ch_iff _ _).2 hc]; rfl
theorem name_no {s : ByteArray} {k : Nat} (hk : (k : Int) < s.size) (hc : ¬ ((97 ≤ qed s k ∧ qed s k ≤ 122) ∨ (48 ≤ qed s k ∧ qed s k ≤ 57 ∧ 0 < k))) : isNameP s = false := by
  cases e : isNameP s with
  | false => rfl
  | true =>
    exfalso
    simp only [isNameP, Bool.and_eq_true] at e
    have := qnc (k := k + 1) omG e.2
    simp only [qc3, Bool.and_eq_true] at this
    exact hc ((ch_iff _ _).1 this.2)
theorem name_len {s : ByteArray} (h : (s.size : Int) < 1 ∨ (s.size : Int) > 8) : isNameP s = false := by
  have : inP s.size 1 8 = false := by simp [inP]; omega
  unfold isNameP
  rw [this]; rfl
theorem name_end {s : ByteArray} {k : Nat} (hk : k ≤ s.size ∧ s.size ≤ 8 ∧ qc3 s k = true) (h0 : ¬ (s.size : Int) < 1) (h : ¬ (k : Int) < s.size) : isNameP s = true := by
  have e : k = s.size := by omega
  have : inP s.size 1 8 = true := by simp [inP]; omega
  unfold isNameP
  rw [this, ← e, hk.2.2]; rfl
theorem kw_at {ks : List V.Term} {i : Nat} (hk : ks.all (fun k => inP k.w 1 16) = true) (h : i < ks.length) : 1 ≤ (kAt ks i).w ∧ (kAt ks i).w ≤ 16 := by
  have : inP (kAt ks i).w 1 16 = true := by
    rw [kAt, List.getD_eq_getElem?_getD, List.getElem?_eq_getElem h]
    exact List.all_eq_true.1 hk _ (List.getElem_mem h)
  simp [inP] at this
  exact this
theorem qi7 {x : Int} (h : inP x 1 16 = true) : 1 ≤ x ∧ x ≤ 16 := by simpa [inP] using h
theorem kid_len {op : Int} {n : Nat} (h : (n : Int) = qjz op) : (op = 0 ∨ op = 22 → n = 0) ∧ (op = 1 ∨ op = 2 ∨ op = 19 ∨ op = 20 ∨ op = 21 → n = 1) ∧ ((3 ≤ op ∧ op ≤ 16) ∨ op = 18 → n = 2) ∧ (op = 17 → n = 3) ∧ 0 ≤ op ∧ op ≤ 22 := by
  unfold qjz at h
  repeat' split at h
  all_goals omega
theorem i_IsName (s : ByteArray) : CallsV Tryz.prog 180 [.dat (.str s)] (.dat (.bool (isNameP s))) := by
  refine oV Tryz.func180 ⟨?_⟩
  repeat' (first | ((with_reducible refine fun (K1 : KT) hK => ?_); refine stK ⟨?_⟩) | ((with_reducible show K1 _ _); subst hK; conv => whnf) | (with_reducible exact rfl) | refine st0 ⟨?_⟩ | ((with_reducible refine SplS.mk (fun h => ?_) (fun h => ?_)) <;> first | exact ctM | (subst h; conv => whnf) | (conv => whnf)) | refine stB ⟨?_⟩ ⟨?_⟩ | (refine Exists.intro ({k : Nat // k ≤ s.size ∧ s.size ≤ 8 ∧ qc3 s k = true}) (Exists.intro (fun ⟨k, hk⟩ => mkS Tryz.f180.ntmps [(0, .dat (.str s)), (3, .dat (.i k))] []) (Exists.intro (fun ⟨k, hk⟩ => s.size - k) (Exists.intro ⟨0, ⟨Nat.zero_le _, ?_, rfl⟩⟩ (And.intro (SubP.sub (σ := []) ⟨⟨rfl, rfl, rfl⟩, ⟨(qab ?_), (qab ?_), trivial⟩, trivial⟩) (fun ⟨k, hk⟩ => ?_))))); rotate_right; conv => whnf) | (refine Exists.intro (⟨k + 1, ?_⟩ : {k : Nat // k ≤ s.size ∧ s.size ≤ 8 ∧ qc3 s k = true}) (And.intro ?_ (SubP.sub (σ := []) ⟨⟨rfl, rfl, rfl⟩, ⟨(qab ?_), (qab ?_), trivial⟩, trivial⟩))) | (intro h; conv => whnf))
  all_goals repeat clear hK K1
  all_goals first | (with_reducible rfl) | (exact absurd (show false = true by with_reducible assumption) (by decide)) | (exact absurd (show true = false by with_reducible assumption) (by decide)) | exact db_eq (name_len (.inl asmR)) | exact db_eq (name_len (.inr asmR)) | exact db_eq (name_end hk asmR asmR) | exact di_eq (rfl : ((0 : Nat) : Int) = 0) | exact di_eq (by rw [qac omG omG]; omega) | omega | (dsimp only; omega) | (have e : ((s.data.toList.getD (k : Int).toNat 0).toNat : Int) = qed s k := rfl; simp only [e, decide_eq_true_eq, decide_eq_false_iff_not] at *; first | exact ⟨by omega, by omega, name_s hk.2.2 omG⟩ | exact name_s hk.2.2 omG | exact db_eq (name_no asmR omG)) | skip
theorem i_kidCount (op : Int) : CallsV Tryz.prog 203 [.dat (.i op)] (.dat (.i (qjz op))) := by
  refine oV Tryz.func203 ⟨?_⟩
  repeat' (first | ((with_reducible refine fun (K1 : KT) hK => ?_); refine stK ⟨?_⟩) | ((with_reducible show K1 _ _); subst hK; conv => whnf) | (with_reducible exact rfl) | refine st0 ⟨?_⟩ | ((with_reducible refine SplS.mk (fun h => ?_) (fun h => ?_)) <;> first | exact ctM | (subst h; conv => whnf) | (conv => whnf)) | (intro h; conv => whnf))
  all_goals repeat clear hK K1
  all_goals exact di_eq (by unfold qjz; (repeat' split) <;> omega)
theorem qo2 (op w n : Int) (nm : ByteArray) (ks : List V.Term) (hl : (ks.length : Int) = qjz op) (hw : inP w 1 16 = true) (hk : ks.all (fun k => inP k.w 1 16) = true) : CallsV Tryz.prog 204 [.agg [.dat (.i op), .dat (.i w), .dat (.i n), .dat (.str nm), .dat (.seq .terms ks)]] (.dat (.bool (qju op w n ks))) := by
  refine oV Tryz.func204 ⟨?_⟩
  repeat' (first | ((with_reducible refine fun (K1 : KT) hK => ?_); refine stK ⟨?_⟩) | ((with_reducible show K1 _ _); subst hK; conv => whnf) | (with_reducible exact rfl) | refine st0 ⟨?_⟩ | ((with_reducible refine SplS.mk (fun h => ?_) (fun h => ?_)) <;> first | exact ctM | (subst h; conv => whnf) | (conv => whnf)) | refine stB ⟨?_⟩ ⟨?_⟩ | (intro h; conv => whnf))
  all_goals repeat clear hK K1
  all_goals (first | (have q := kid_len hl; omega) | skip)
  all_goals (refine db_eq ?_)
  all_goals (have e0 : ks.getD (Int.toNat 0) K.terms.dflt = kAt ks 0 := rfl; have e1 : ks.getD (Int.toNat 1) K.terms.dflt = kAt ks 1 := rfl; have e2 : ks.getD (Int.toNat 2) K.terms.dflt = kAt ks 2 := rfl; simp only [e0, e1, e2] at *; clear e0 e1 e2; have q := kid_len hl; have hw' := qi7 hw; have p0 := fun h => kw_at (i := 0) hk h; have p1 := fun h => kw_at (i := 1) hk h)
  all_goals (try rw [qac omG omG])
  all_goals (rw [Bool.eq_iff_iff]; unfold qju; generalize (kAt ks 0).w = x0 at *; generalize (kAt ks 1).w = x1 at *; generalize (kAt ks 2).w = x2 at *; (repeat' split) <;> first | omega | (simp; done) | (simp; omega))
/-! ### variables are noted -/
theorem v_no {s : ByteArray} {w : Int} {q : TC} (h : isNameP s = false) : qf8 s w q = (false, q) := if_neg (by rw [h]; decide)
theorem v_hit {s : ByteArray} {w : Int} {q : TC} (h : isNameP s = true) (hg : (mget q.m s).isSome = true) : qf8 s w q = ((mget q.m s).getD 0 == w, ⟨q.c, q.m, false⟩) := by
  unfold qf8
  rw [if_pos h]
  cases e : mget q.m s with
  | none => rw [e] at hg; cases hg
  | some x => simp only [Option.getD_some]; congr 1
theorem v_new {s : ByteArray} {w : Int} {q : TC} (h : isNameP s = true) (hg : (mget q.m s).isSome = false) : qf8 s w q = (true, ⟨q.c, qne q.m s w, false⟩) := by
  unfold qf8
  rw [if_pos h]
  cases e : mget q.m s with
  | none => rfl
  | some x => rw [e] at hg; cases hg
theorem qlb {c c' : Int} {m m' : List (ByteArray × Int)} {z z' : Bool} {i : Nat} (hc : c = c') (h : m = m') (hz : z = z') : [Blk.box [.dat (.int .i64 c), .mp i], .mp m z] = [Blk.box [.dat (.i c'), .mp i], .mp m' z'] := by rw [h, hz, hc]
theorem qk8 {b b' : Bool} (h : b = b') : AV.dat (Dat.bool b) = AV.dat (Dat.bool b') := by rw [h]
theorem qms {c : Int} {m m' : List (ByteArray × Int)} {z z' : Bool} {i : Nat} (h : m = m') (hz : z = z') : [Blk.box [.dat (.i c), .mp i], .mp m z] = [Blk.box [.dat (.i c), .mp i], .mp m' z'] := by rw [h, hz]
theorem c_variable (op w n : Int) (nm : ByteArray) (ks : List V.Term) (c : Int) (m : List (ByteArray × Int)) (z : Bool) (hz : z = true → m = []) : CallsG Tryz.prog 205 [.ptr 0 0, .agg [.dat (.i op), .dat (.i w), .dat (.i n), .dat (.str nm), .dat (.seq .terms ks)]] [.box [.dat (.i c), .mp 1], .mp m z] 1 (fun res B => res = .dat (.bool (qf8 nm w ⟨c, m, z⟩).1) ∧ B = [.box [.dat (.i c), .mp 1], .mp (qf8 nm w ⟨c, m, z⟩).2.m (qf8 nm w ⟨c, m, z⟩).2.z]) := by
  refine oG Tryz.func205 ⟨?_⟩
  repeat' (first | ((with_reducible refine fun (K1 : KT) hK => ?_); refine stK ⟨?_⟩) | ((with_reducible show K1 _ _); subst hK; conv => whnf) | (with_reducible exact rfl) | refine st0 ⟨?_⟩ | ((with_reducible refine SplS.mk (fun h => ?_) (fun h => ?_)) <;> first | exact ctM | ((fail_if_success (have _x : @Eq Bool _ _ := h)); subst h; conv => whnf) | (conv => whnf)) | refine stB ⟨?_⟩ ⟨?_⟩ | ((with_reducible first | refine pcI (g := 180) ?_ | show Exists _); refine ⟨_, i_IsName .., rfl, ?_⟩; rotate_right; conv => whnf) | (intro h; conv => whnf))
  all_goals repeat clear hK K1
  all_goals first | (with_reducible assumption) | (have e := v_no (w := w) (q := ⟨c, m, z⟩) (show isNameP nm = false by with_reducible assumption); first | exact congrArg (fun b => AV.dat (Dat.bool b)) (by rw [e]) | exact qms (by rw [e]) (by rw [e])) | (have hm := hz asmR; subst hm; first | (have e := v_hit (w := w) (q := ⟨c, [], z⟩) (show isNameP nm = true by with_reducible assumption) asmR; first | exact congrArg (fun b => AV.dat (Dat.bool b)) (by rw [e]) | exact qms (by rw [e]) (by rw [e])) | (have e := v_new (w := w) (q := ⟨c, [], z⟩) (show isNameP nm = true by with_reducible assumption) asmR; first | exact congrArg (fun b => AV.dat (Dat.bool b)) (by rw [e]) | exact qms (by rw [e]) (by rw [e]))) | (have e := v_hit (w := w) (q := ⟨c, m, z⟩) (show isNameP nm = true by with_reducible assumption) asmR; have ez : z = false := asmR; first | exact congrArg (fun b => AV.dat (Dat.bool b)) (by rw [e]) | exact qms (by rw [e]) (by rw [e]; exact ez)) | (have e := v_new (w := w) (q := ⟨c, m, z⟩) (show isNameP nm = true by with_reducible assumption) asmR; have ez : z = false := asmR; first | exact congrArg (fun b => AV.dat (Dat.bool b)) (by rw [e]) | exact qms (by rw [e]) (by rw [e]; exact ez)) | skip
/-! ### a node and all below it -/
structure IHNode (t : V.Term) : Prop where
  call : ∀ (op w n : Int) (nm : ByteArray) (ks : List V.Term) (c : Int) (m : List (ByteArray × Int)) (z : Bool), (z = true → m = []) → 0 ≤ c ∧ c ≤ 240 → sizeT ⟨op, w, n, nm, ks⟩ < sizeT t →
    CallsG Tryz.prog 182 [.ptr 0 0, .agg [.dat (.i op), .dat (.i w), .dat (.i n), .dat (.str nm), .dat (.seq .terms ks)]] [.box [.dat (.i c), .mp 1], .mp m z] 1
      (fun res B => res = .dat (.bool (nodeF ⟨op, w, n, nm, ks⟩ ⟨c, m, z⟩).1) ∧ B = [.box [.dat (.i (nodeF ⟨op, w, n, nm, ks⟩ ⟨c, m, z⟩).2.c), .mp 1], .mp (nodeF ⟨op, w, n, nm, ks⟩ ⟨c, m, z⟩).2.m (nodeF ⟨op, w, n, nm, ks⟩ ⟨c, m, z⟩).2.z])
theorem ih_node {t : V.Term} (ih : IHNode t) {op w n : Int} {nm : ByteArray} {ks : List V.Term} {c : Int} {m : List (ByteArray × Int)} {z : Bool} (hz : z = true → m = []) (hc : 0 ≤ c ∧ c ≤ 240) (hs : sizeT ⟨op, w, n, nm, ks⟩ < sizeT t) :
    CallsG Tryz.prog 182 [.ptr 0 0, .agg [.dat (.i op), .dat (.i w), .dat (.i n), .dat (.str nm), .dat (.seq .terms ks)]] [.box [.dat (.i c), .mp 1], .mp m z] 1
      (fun res B => res = .dat (.bool (nodeF ⟨op, w, n, nm, ks⟩ ⟨c, m, z⟩).1) ∧ B = [.box [.dat (.i (nodeF ⟨op, w, n, nm, ks⟩ ⟨c, m, z⟩).2.c), .mp 1], .mp (nodeF ⟨op, w, n, nm, ks⟩ ⟨c, m, z⟩).2.m (nodeF ⟨op, w, n, nm, ks⟩ ⟨c, m, z⟩).2.z]) := ih.call op w n nm ks c m z hz hc hs
noncomputable def q0 (t : V.Term) (q : TC) : TC := if t.op = 22 then (qf8 t.name t.w ⟨q.c + 1, q.m, q.z⟩).2 else ⟨q.c + 1, q.m, q.z⟩
theorem qlr (t : V.Term) (q : TC) : nodeF t q = if q.c + 1 ≤ 240 ∧ qha t.op t.w t.n t.name t.kids = true then
      if t.op = 22 then if (qf8 t.name t.w ⟨q.c + 1, q.m, q.z⟩).1 = true then qce t.kids (qf8 t.name t.w ⟨q.c + 1, q.m, q.z⟩).2 else (false, (qf8 t.name t.w ⟨q.c + 1, q.m, q.z⟩).2)
      else qce t.kids ⟨q.c + 1, q.m, q.z⟩
    else (false, ⟨q.c + 1, q.m, q.z⟩) := by cases t; rw [nodeF]
theorem qnd {t : V.Term} {q : TC} (h : ¬ (q.c + 1 ≤ 240 ∧ qha t.op t.w t.n t.name t.kids = true)) : nodeF t q = (false, ⟨q.c + 1, q.m, q.z⟩) := by rw [qlr, if_neg h]
theorem qdn {op w n : Int} {nm : ByteArray} {ks : List V.Term} : qha op w n nm ks = true ↔ NodeOk op w n nm ks := by unfold qha; exact @decide_eq_true_iff _ (Classical.propDecidable _)
section
variable {t : V.Term} {q : TC}
theorem nF_c (h : ¬ q.c + 1 ≤ 240) : nodeF t q = (false, ⟨q.c + 1, q.m, q.z⟩) := qnd fun k => h k.1
theorem nF_w (h : inP t.w 1 16 = false) : nodeF t q = (false, ⟨q.c + 1, q.m, q.z⟩) := qnd fun k => by have := (qdn.1 k.2).width; rw [h] at this; cases this
theorem nF_len (h : ¬ (t.kids.length : Int) = qjz t.op) : nodeF t q = (false, ⟨q.c + 1, q.m, q.z⟩) := qnd fun k => h (qdn.1 k.2).len
theorem nF_kw {i : Nat} (hi : (i : Int) < t.kids.length) (h : inP (t.kids.getD (i : Int).toNat K.terms.dflt).w 1 16 = false) : nodeF t q = (false, ⟨q.c + 1, q.m, q.z⟩) := qnd fun k => by
  have := kw_at (qdn.1 k.2).kw (i := i) omG
  have h2 : inP (kAt t.kids i).w 1 16 = true := by
    unfold inP
    simp only [Bool.and_eq_true, decide_eq_true_eq]
    exact this
  have h3 : true = false := h2.symm.trans h
  cases h3
theorem nF_fit (h : qju t.op t.w t.n t.kids = false) : nodeF t q = (false, ⟨q.c + 1, q.m, q.z⟩) := qnd fun k => by have := (qdn.1 k.2).fit; rw [h] at this; cases this
theorem nF_k (ho : t.op = 0) (h : wordP t.w t.n = false) : nodeF t q = (false, ⟨q.c + 1, q.m, q.z⟩) := qnd fun k => by have := (qdn.1 k.2).const ho; rw [h] at this; cases this
theorem nF_n (ho : ¬ t.op = 0) (h9 : ¬ t.op = 19) (h : ¬ t.n = 0) : nodeF t q = (false, ⟨q.c + 1, q.m, q.z⟩) := qnd fun k => h ((qdn.1 k.2).num ho h9)
theorem nF_nm (ho : ¬ t.op = 22) (h : (t.name.toList == (⟨#[]⟩ : ByteArray).toList) = false) : nodeF t q = (false, ⟨q.c + 1, q.m, q.z⟩) := qnd fun k => str_ne h ((qdn.1 k.2).nam ho)
theorem nB_of (h1 : inP t.w 1 16 = true) (h2 : (t.kids.length : Int) = qjz t.op) (h3 : t.kids.all (fun k => inP k.w 1 16) = true) (h4 : qju t.op t.w t.n t.kids = true) (h5 : t.op = 0 → wordP t.w t.n = true) (h6 : t.op ≠ 0 → t.op ≠ 19 → t.n = 0) (h7 : t.op ≠ 22 → t.name = ByteArray.empty) :
    qha t.op t.w t.n t.name t.kids = true := qdn.2 ⟨h1, h2, h3, h4, h5, h6, h7⟩
theorem nF_v (hc : q.c + 1 ≤ 240) (hb : qha t.op t.w t.n t.name t.kids = true) (ho : t.op = 22) (h : (qf8 t.name t.w ⟨q.c + 1, q.m, q.z⟩).1 = false) : nodeF t q = (false, (qf8 t.name t.w ⟨q.c + 1, q.m, q.z⟩).2) := by
  rw [qlr, if_pos ⟨hc, hb⟩, if_pos ho, if_neg (by rw [h]; decide)]
theorem nF_y (hc : q.c + 1 ≤ 240) (hb : qha t.op t.w t.n t.name t.kids = true) (h : t.op = 22 → (qf8 t.name t.w ⟨q.c + 1, q.m, q.z⟩).1 = true) : nodeF t q = qce t.kids (q0 t q) := by
  rw [qlr, if_pos ⟨hc, hb⟩]
  unfold q0
  by_cases ho : t.op = 22
  · rw [if_pos ho, if_pos ho, if_pos (h ho)]
  · rw [if_neg ho, if_neg ho]
theorem q0_v (ho : t.op = 22) : q0 t q = (qf8 t.name t.w ⟨q.c + 1, q.m, q.z⟩).2 := if_pos ho
theorem q0_n (ho : ¬ t.op = 22) : q0 t q = ⟨q.c + 1, q.m, q.z⟩ := if_neg ho
theorem q0_c : (q0 t q).c = q.c + 1 := by
  unfold q0
  split
  · exact varF_c _ _ _
  · rfl
theorem q0_z (h : q.z = true → q.m = []) : (q0 t q).z = true → (q0 t q).m = [] := by
  unfold q0
  split
  · exact varF_z h
  · exact h
end
structure KidI (t : V.Term) (q : TC) (i : Nat) : Prop where
  le : i ≤ t.kids.length
  so : (kTo t.kids (q0 t q) i).1 = true
  bd : 0 ≤ (kTo t.kids (q0 t q) i).2.c ∧ (kTo t.kids (q0 t q) i).2.c ≤ 240
  eq : nodeF t q = qce t.kids (q0 t q)
theorem kidI_0 {t : V.Term} {c : Int} {m : List (ByteArray × Int)} {z : Bool} (h0 : 0 ≤ c) (hc : c + 1 ≤ 240) (hb : qha t.op t.w t.n t.name t.kids = true) (h : t.op = 22 → (qf8 t.name t.w ⟨c + 1, m, z⟩).1 = true) : KidI t ⟨c, m, z⟩ 0 := by
  refine ⟨Nat.zero_le _, by rw [kTo_0], ?_, nF_y hc hb h⟩
  rw [kTo_0, q0_c]
  simp only
  omega
theorem nodeF_cb {t : V.Term} {q : TC} (h : (nodeF t q).1 = true) : (nodeF t q).2.c ≤ 240 ∧ q.c ≤ (nodeF t q).2.c := by
  obtain ⟨h1, _, _, h4⟩ := (qor t q).yes h
  omega
theorem w1 {c : Int} (hc : 0 ≤ c ∧ c ≤ 240) : IntKind.i64.wrap (c + 1) = c + 1 := qac omG omG
abbrev kE (ks : List V.Term) (i : Nat) : V.Term := ⟨(ks.getD (i : Int).toNat K.terms.dflt).op, (ks.getD (i : Int).toNat K.terms.dflt).w, (ks.getD (i : Int).toNat K.terms.dflt).n, (ks.getD (i : Int).toNat K.terms.dflt).name, (ks.getD (i : Int).toNat K.terms.dflt).kids⟩
theorem qhd (ks : List V.Term) (i : Nat) : kE ks i = kAt ks i := V.Term.eta _
abbrev tE (q : TC) : TC := ⟨q.c, q.m, q.z⟩
theorem kidI_s {t : V.Term} {q : TC} {i : Nat} (h : KidI t q i) (hi : (i : Int) < t.kids.length) (hy : (nodeF (kE t.kids i) (tE (kTo t.kids (q0 t q) i).2)).1 = true) : KidI t q (i + 1) ∧ kTo t.kids (q0 t q) (i + 1) = nodeF (kE t.kids i) (tE (kTo t.kids (q0 t q) i).2) := by
  rw [qhd] at hy ⊢
  have e := kTo_s omG h.so
  have hy' : (nodeF (kAt t.kids i) (kTo t.kids (q0 t q) i).2).1 = true := hy
  have hb := nodeF_cb hy'
  have := h.bd
  exact ⟨⟨by omega, by rw [e]; exact hy, by rw [e]; omega, h.eq⟩, e⟩
theorem kidI_e {t : V.Term} {q : TC} {i : Nat} (h : KidI t q i) (hi : ¬ (i : Int) < t.kids.length) : nodeF t q = (true, (kTo t.kids (q0 t q) i).2) := by
  rw [h.eq, ← kTo_end (i := i) omG]
  exact Prod.ext h.so rfl
theorem kidI_n {t : V.Term} {q : TC} {i : Nat} (h : KidI t q i) (hi : (i : Int) < t.kids.length) (hn : (nodeF (kE t.kids i) (tE (kTo t.kids (q0 t q) i).2)).1 = false) : nodeF t q = (false, (nodeF (kE t.kids i) (tE (kTo t.kids (q0 t q) i).2)).2) := by
  rw [qhd] at hn ⊢
  have e := kTo_s omG h.so
  rw [h.eq, kTo_no (i := i + 1) (by rw [e]; exact hn), e]
  exact Prod.ext hn rfl
theorem kw_s {ks : List V.Term} {i : Nat} (h : i ≤ ks.length ∧ (ks.take i).all (fun k => inP k.w 1 16) = true) (hi : (i : Int) < ks.length) (hw : inP (ks.getD (i : Int).toNat K.terms.dflt).w 1 16 = true) : i + 1 ≤ ks.length ∧ (ks.take (i + 1)).all (fun k => inP k.w 1 16) = true := by
  have hl : i < ks.length := by omega
  refine ⟨hl, ?_⟩
  have e : ks.getD (i : Int).toNat K.terms.dflt = ks[i] := by rw [Int.toNat_natCast, List.getD_eq_getElem?_getD, List.getElem?_eq_getElem hl]; rfl
  rw [e] at hw
  rw [List.take_add_one, List.getElem?_eq_getElem hl, List.all_append, h.2]
  simp [hw]
theorem kw_e {ks : List V.Term} {i : Nat} (h : i ≤ ks.length ∧ (ks.take i).all (fun k => inP k.w 1 16) = true) (hi : ¬ (i : Int) < ks.length) : ks.all (fun k => inP k.w 1 16) = true := by
  have := h.2
  rwa [List.take_of_length_le omG] at this
theorem qd3 {t : V.Term} {i : Nat} (h : (i : Int) < t.kids.length) : sizeT (t.kids.getD (i : Int).toNat K.terms.dflt) < sizeT t := by
  have := size_kid (op := t.op) (w := t.w) (n := t.n) (nm := t.name) (ks := t.kids) (i := i) omG
  rwa [V.Term.eta] at this
theorem c_node0 (t : V.Term) (c : Int) (m : List (ByteArray × Int)) (z : Bool) (ih : IHNode t) (hz : z = true → m = []) (hc : 0 ≤ c ∧ c ≤ 240) : CallsG Tryz.prog 182 [.ptr 0 0, .agg [.dat (.i t.op), .dat (.i t.w), .dat (.i t.n), .dat (.str t.name), .dat (.seq .terms t.kids)]] [.box [.dat (.i c), .mp 1], .mp m z] 1 (fun res B => res = .dat (.bool (nodeF t ⟨c, m, z⟩).1) ∧ B = [.box [.dat (.i (nodeF t ⟨c, m, z⟩).2.c), .mp 1], .mp (nodeF t ⟨c, m, z⟩).2.m (nodeF t ⟨c, m, z⟩).2.z]) := by
  refine oG Tryz.func182 ⟨?_⟩
  repeat' (first | ((with_reducible refine fun (K1 : KT) hK => ?_); refine stK ⟨?_⟩) | ((with_reducible show K1 _ _); subst hK; conv => whnf) | (with_reducible exact rfl) | refine st0 ⟨?_⟩ | ((with_reducible refine SplS.mk (fun h => ?_) (fun h => ?_)) <;> first | exact ctM | ((fail_if_success (have _x : @Eq Bool _ _ := h)); subst h; conv => whnf) | (conv => whnf)) | refine stB ⟨?_⟩ ⟨?_⟩ | (refine Exists.intro ({i : Nat // KidI t ⟨c, m, z⟩ i}) (Exists.intro (fun ⟨i, hi⟩ => mkS Tryz.f182.ntmps [(0, .ptr 900000 0), (3, .ptr 3 0), (88, .dat (.i t.kids.length)), (89, .dat (.i i))] [(900000, .box [.dat (.i (kTo t.kids (q0 t ⟨c, m, z⟩) i).2.c), .mp 101]), (101, .mp (kTo t.kids (q0 t ⟨c, m, z⟩) i).2.m (kTo t.kids (q0 t ⟨c, m, z⟩) i).2.z), (3, .box [.dat (.i t.op), .dat (.i t.w), .dat (.i t.n), .dat (.str t.name), .dat (.seq .terms t.kids)])]) (Exists.intro (fun ⟨i, hi⟩ => t.kids.length - i) (Exists.intro ⟨0, ?_⟩ (And.intro (SubP.sub (σ := [(900000, some 900000), (101, some 900001), (3, some 3)]) ⟨⟨rfl, rfl, rfl⟩, ⟨⟨rfl, rfl⟩, ⟨rfl, rfl⟩, (qab ?_), (qab ?_), trivial⟩, ⟨⟨(qaa ?_), rfl, trivial⟩, ⟨?_, ?_⟩, ⟨(qaa ?_), (qaa ?_), (qaa ?_), (qaa ?_), (qaa ?_), trivial⟩, trivial⟩⟩) (fun ⟨i, hi⟩ => ?_))))); rotate_right; conv => whnf) | (refine Exists.intro ({i : Nat // KidI t ⟨c, m, z⟩ i}) (Exists.intro (fun ⟨i, hi⟩ => mkS Tryz.f182.ntmps [(0, .ptr 900000 0), (3, .ptr 3 0), (88, .dat (.i t.kids.length)), (89, .dat (.i i))] [(900000, .box [.dat (.i (kTo t.kids (q0 t ⟨c, m, z⟩) i).2.c), .mp 101]), (101, .mp (kTo t.kids (q0 t ⟨c, m, z⟩) i).2.m (kTo t.kids (q0 t ⟨c, m, z⟩) i).2.z), (3, .box [.dat (.i t.op), .dat (.i t.w), .dat (.i t.n), .dat (.str t.name), .dat (.seq .terms t.kids)])]) (Exists.intro (fun ⟨i, hi⟩ => t.kids.length - i) (Exists.intro ⟨0, ?_⟩ (And.intro (SubP.sub (σ := [(900000, some 900000), (101, some 85001), (3, some 3)]) ⟨⟨rfl, rfl, rfl⟩, ⟨⟨rfl, rfl⟩, ⟨rfl, rfl⟩, (qab ?_), (qab ?_), trivial⟩, ⟨⟨(qaa ?_), rfl, trivial⟩, ⟨?_, ?_⟩, ⟨(qaa ?_), (qaa ?_), (qaa ?_), (qaa ?_), (qaa ?_), trivial⟩, trivial⟩⟩) (fun ⟨i, hi⟩ => ?_))))); rotate_right; conv => whnf) | (refine Exists.intro (⟨i + 1, ?_⟩ : {i : Nat // KidI t ⟨c, m, z⟩ i}) (And.intro ?_ (SubP.sub (σ := [(900000, some 900000), (101, some 99001), (3, some 3)]) ⟨⟨rfl, rfl, rfl⟩, ⟨⟨rfl, rfl⟩, ⟨rfl, rfl⟩, (qab ?_), (qab ?_), trivial⟩, ⟨⟨(qaa ?_), rfl, trivial⟩, ⟨?_, ?_⟩, ⟨(qaa ?_), (qaa ?_), (qaa ?_), (qaa ?_), (qaa ?_), trivial⟩, trivial⟩⟩))) | (refine Exists.intro ({i : Nat // i ≤ t.kids.length ∧ (t.kids.take i).all (fun k => inP k.w 1 16) = true}) (Exists.intro (fun ⟨i, hi⟩ => mkS Tryz.f182.ntmps [(0, .ptr 900000 0), (3, .ptr 3 0), (36, .dat (.i t.kids.length)), (37, .dat (.i i))] [(900000, .box [.dat (.i (c + 1)), .mp 900001]), (900001, .mp m z), (3, .box [.dat (.i t.op), .dat (.i t.w), .dat (.i t.n), .dat (.str t.name), .dat (.seq .terms t.kids)])]) (Exists.intro (fun ⟨i, hi⟩ => t.kids.length - i) (Exists.intro ⟨0, ⟨Nat.zero_le _, rfl⟩⟩ (And.intro (SubP.sub (σ := [(900000, some 900000), (900001, some 900001), (3, some 3)]) ⟨⟨rfl, rfl, rfl⟩, ⟨⟨rfl, rfl⟩, ⟨rfl, rfl⟩, (qab ?_), (qab ?_), trivial⟩, ⟨⟨(qaa ?_), rfl, trivial⟩, ⟨?_, ?_⟩, ⟨(qaa ?_), (qaa ?_), (qaa ?_), (qaa ?_), (qaa ?_), trivial⟩, trivial⟩⟩) (fun ⟨i, hi⟩ => ?_))))); rotate_right; conv => whnf) | (refine Exists.intro (⟨i + 1, ?_⟩ : {i : Nat // i ≤ t.kids.length ∧ (t.kids.take i).all (fun k => inP k.w 1 16) = true}) (And.intro ?_ (SubP.sub (σ := [(900000, some 900000), (900001, some 900001), (3, some 3)]) ⟨⟨rfl, rfl, rfl⟩, ⟨⟨rfl, rfl⟩, ⟨rfl, rfl⟩, (qab ?_), (qab ?_), trivial⟩, ⟨⟨(qaa ?_), rfl, trivial⟩, ⟨?_, ?_⟩, ⟨(qaa ?_), (qaa ?_), (qaa ?_), (qaa ?_), (qaa ?_), trivial⟩, trivial⟩⟩))) | ((with_reducible first | refine pcI (g := 128) ?_ | show Exists _); refine ⟨_, qea .., rfl, ?_⟩; rotate_right; conv => whnf) | ((with_reducible first | refine pcI (g := 203) ?_ | show Exists _); refine ⟨_, i_kidCount .., rfl, ?_⟩; rotate_right; conv => whnf) | ((with_reducible first | refine pcI (g := 204) ?_ | show Exists _); refine ⟨_, qo2 (hl := ?_) (hw := ?_) (hk := ?_) .., rfl, ?_⟩; rotate_right; conv => whnf) | ((with_reducible first | refine pcI (g := 101) ?_ | show Exists _); refine ⟨_, qc1 .., rfl, ?_⟩; rotate_right; conv => whnf) | ((with_reducible refine gcI (g := 205) ?_); refine ⟨_, _, c_variable (hz := ?_) .., fun res B hRB => ?_⟩; rotate_right; obtain ⟨rfl, rfl⟩ := hRB; conv => whnf) | ((with_reducible refine gcI (g := 182) ?_); refine ⟨_, _, ih_node (ih := by assumption) (hz := ?_) (hc := ?_) (hs := ?_) .., fun res B hRB => ?_⟩; rotate_right; obtain ⟨rfl, rfl⟩ := hRB; conv => whnf) | (intro h; conv => whnf))
  all_goals repeat clear hK K1
  all_goals first | (with_reducible assumption) | omega | exact di_eq (rfl : ((0 : Nat) : Int) = 0) | (refine di_eq ?_; rw [qac omG omG]; done) | (have hm : maxLen = 9223372036854775807 := rfl; refine di_eq ?_; rw [qac omG omG]; omega) | (dsimp only; omega) | exact hz asmR | exact (kTo_z (q0_z (q := ⟨c, m, z⟩) hz)) asmR | exact hi.bd.1 | exact hi.bd.2 | (rw [V.Term.eta]; exact qd3 asmR) | exact kw_s hi asmR asmR | exact (kw_s hi asmR asmR).2 | exact kw_e hi asmR | exact kidI_0 hc.1 (by have ew := w1 hc; omega) (nB_of asmR asmR (kw_e hi asmR) asmR (fun e => (by first | (with_reducible assumption) | exact absurd e asmR)) (fun e1 e2 => (by first | (with_reducible assumption) | exact absurd asmR e1 | exact absurd asmR e2)) (fun e => (by first | exact str_e asmR | exact absurd asmR e))) (fun e => (by first | (with_reducible assumption) | exact absurd e asmR)) | (rw [kTo_0]; first | exact di_eq q0_c | exact congrArg TC.m (q0_n asmR) | exact congrArg TC.z (q0_n asmR) | exact congrArg TC.m (q0_v asmR) | exact congrArg TC.z (q0_v asmR)) | (have e : nodeF t ⟨c, m, z⟩ = (false, ⟨c + 1, m, z⟩) := (by first | exact nF_c (q := ⟨c, m, z⟩) (by have ew := w1 hc; simp only; omega) | exact nF_w asmR | exact nF_len asmR | exact nF_kw asmR asmR | exact nF_fit asmR | exact nF_k asmR asmR | exact nF_n asmR asmR asmR | exact nF_nm asmR asmR); first | (refine qk8 ?_; rw [e]) | (refine qlb ?_ ?_ ?_ <;> (rw [e]; try exact qac omG omG))) | (have e := nF_v (q := ⟨c, m, z⟩) (by have ew := w1 hc; simp only; omega) (nB_of asmR asmR (kw_e hi asmR) asmR (fun e => (by first | (with_reducible assumption) | exact absurd e asmR)) (fun e1 e2 => (by first | (with_reducible assumption) | exact absurd asmR e1 | exact absurd asmR e2)) (fun e => (by first | exact str_e asmR | exact absurd asmR e))) asmR asmR; first | (refine qk8 ?_; rw [e]) | (refine qlb ?_ ?_ ?_ <;> (rw [e]; try exact (varF_c t.name t.w ⟨c + 1, m, z⟩).symm))) | (have e := kidI_e hi asmR; first | (refine qk8 ?_; rw [e]) | (refine qlb ?_ ?_ ?_ <;> rw [e])) | exact (kidI_s hi asmR asmR).1 | (rw [(kidI_s hi asmR asmR).2]) | (have e := kidI_n hi asmR asmR; first | (refine qk8 ?_; rw [e]) | (refine qlb ?_ ?_ ?_ <;> rw [e])) | skip
theorem c_node (op w n : Int) (nm : ByteArray) (ks : List V.Term) (c : Int) (m : List (ByteArray × Int)) (z : Bool) (hz : z = true → m = []) (hc : 0 ≤ c ∧ c ≤ 240) :
    CallsG Tryz.prog 182 [.ptr 0 0, .agg [.dat (.i op), .dat (.i w), .dat (.i n), .dat (.str nm), .dat (.seq .terms ks)]] [.box [.dat (.i c), .mp 1], .mp m z] 1
      (fun res B => res = .dat (.bool (nodeF ⟨op, w, n, nm, ks⟩ ⟨c, m, z⟩).1) ∧ B = [.box [.dat (.i (nodeF ⟨op, w, n, nm, ks⟩ ⟨c, m, z⟩).2.c), .mp 1], .mp (nodeF ⟨op, w, n, nm, ks⟩ ⟨c, m, z⟩).2.m (nodeF ⟨op, w, n, nm, ks⟩ ⟨c, m, z⟩).2.z]) := by
  have key : ∀ (k : Nat) (t : V.Term) (c : Int) (m : List (ByteArray × Int)) (z : Bool), sizeT t < k → (z = true → m = []) → 0 ≤ c ∧ c ≤ 240 →
      CallsG Tryz.prog 182 [.ptr 0 0, .agg [.dat (.i t.op), .dat (.i t.w), .dat (.i t.n), .dat (.str t.name), .dat (.seq .terms t.kids)]] [.box [.dat (.i c), .mp 1], .mp m z] 1
        (fun res B => res = .dat (.bool (nodeF t ⟨c, m, z⟩).1) ∧ B = [.box [.dat (.i (nodeF t ⟨c, m, z⟩).2.c), .mp 1], .mp (nodeF t ⟨c, m, z⟩).2.m (nodeF t ⟨c, m, z⟩).2.z]) := by
    intro k
    induction k with
    | zero => intro t _ _ _ h; omega
    | succ k ih =>
      intro t c m z h hz hc
      exact c_node0 t c m z ⟨fun op w n nm ks c' m' z' hz' hc' hs => ih ⟨op, w, n, nm, ks⟩ c' m' z' omG hz' hc'⟩ hz hc
  exact key _ ⟨op, w, n, nm, ks⟩ c m z (Nat.lt_succ_self _) hz hc
theorem c_nodeN (op w n : Int) (nm : ByteArray) (ks : List V.Term) :
    CallsG Tryz.prog 182 [.ptr 0 0, .agg [.dat (.i op), .dat (.i w), .dat (.i n), .dat (.str nm), .dat (.seq .terms ks)]] [.box [.dat (.i 0), .nilm]] 1
      (fun res B => res = .dat (.bool (nodeF ⟨op, w, n, nm, ks⟩ ⟨0, [], true⟩).1) ∧ B = [.box [.dat (.i (nodeF ⟨op, w, n, nm, ks⟩ ⟨0, [], true⟩).2.c), .mp 1], .mp (nodeF ⟨op, w, n, nm, ks⟩ ⟨0, [], true⟩).2.m (nodeF ⟨op, w, n, nm, ks⟩ ⟨0, [], true⟩).2.z]) :=
  (c_node op w n nm ks 0 [] true (fun _ => rfl) (by decide)).nilm rfl
theorem i_TermOk (op w n : Int) (nm : ByteArray) (ks : List V.Term) : CallsV Tryz.prog 157 [.agg [.dat (.i op), .dat (.i w), .dat (.i n), .dat (.str nm), .dat (.seq .terms ks)]] (.dat (.bool (qd2 ⟨op, w, n, nm, ks⟩))) := by
  refine oV Tryz.func157 ⟨?_⟩
  repeat' (first | ((with_reducible refine fun (K1 : KT) hK => ?_); refine stK ⟨?_⟩) | ((with_reducible show K1 _ _); subst hK; conv => whnf) | (with_reducible exact rfl) | refine st0 ⟨?_⟩ | ((with_reducible refine SplS.mk (fun h => ?_) (fun h => ?_)) <;> first | exact ctM | (subst h; conv => whnf) | (conv => whnf)) | ((with_reducible refine gcI (g := 182) ?_); refine ⟨_, _, c_nodeN .., fun res B hRB => ?_⟩; rotate_right; obtain ⟨rfl, rfl⟩ := hRB; conv => whnf) | (intro h; conv => whnf))
  all_goals repeat clear hK K1
  all_goals first | rfl | exact congrArg Dat.bool (check_all _).symm | skip
end Vg
