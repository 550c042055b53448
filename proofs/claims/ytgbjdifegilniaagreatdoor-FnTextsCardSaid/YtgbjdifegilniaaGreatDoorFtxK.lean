/- Formulas are looked at, printed and read by the program: contracts. Condition: the formula is small and in order. -/
import Derived.Test.YtgbjdifegilniaaGreatDoorFij
import Derived.Test.YtgbjdifegilniaaGreatDoorRg
namespace Vg
open Go Go.Proofs
set_option maxRecDepth 100000
set_option maxHeartbeats 40000000
theorem lM {v : Int} {c : List Int} {k : Nat} (h : ClQ v c) (hk : (k : Int) < c.length) : c.getD (k : Int).toNat K.ints.dflt ≠ 0 ∧ -v ≤ c.getD (k : Int).toNat K.ints.dflt ∧ c.getD (k : Int).toNat K.ints.dflt ≤ v := by
  have hk' : k < c.length := by omega
  rw [Int.toNat_natCast, List.getD_eq_getElem?_getD, List.getElem?_eq_getElem hk']
  exact h.lit _ (List.getElem_mem hk')
theorem i_isLit (x v : Int) (hv : 0 ≤ v ∧ v ≤ 6) (hx : x ≠ 0 ∧ -v ≤ x ∧ x ≤ v) : CallsV Tryz.prog 114 [.dat (.i x), .dat (.i v)] (.dat (.bool true)) := by
  refine oV Tryz.func114 ⟨?_⟩
  repeat' (first | ((with_reducible refine fun (K1 : KT) hK => ?_); (with_reducible refine j5 ?_ ?_); exact rfl; conv => whnf) | ((with_reducible refine fun (K1 : KT) hK => ?_); conv => whnf) | ((with_reducible show K1 _ _); subst hK; conv => whnf) | (with_reducible exact rfl) | ((with_reducible refine a8 ?_); conv => whnf) | ((with_reducible refine tB ?_); conv => whnf) | ((with_reducible refine d7 (fun h => ?_) (fun h => ?_)) <;> first | contradiction | (subst h; conv => whnf) | (conv => whnf)) | ((with_reducible refine pE (fun h => ?_) (fun h => ?_)) <;> first | contradiction | (subst h; conv => whnf) | (conv => whnf)) | (refine ⟨(rfl : d4 _ = true), rfl, ?_⟩; conv => whnf) | ((with_reducible show d3 _ _ _ _ _ _); conv => whnf) | (intro h; conv => whnf))
  all_goals repeat clear hK K1
  all_goals first | omega | exact rfl | (have e : IntKind.i64.wrap (0 - v) = 0 - v := z1 omG omG; rw [e] at h; exfalso; omega) | exact congrArg Dat.bool (decide_eq_true hx.2.2).symm | skip
theorem qdt (c : List Int) (v : Int) (hv : 0 ≤ v ∧ v ≤ 6) (hc : ClQ v c) : CallsV Tryz.prog 98 [.dat (.seq .ints c), .dat (.i v)] (.dat (.bool true)) := by
  refine oV Tryz.func98 ⟨?_⟩
  repeat' (first | ((with_reducible refine fun (K1 : KT) hK => ?_); (with_reducible refine j5 ?_ ?_); exact rfl; conv => whnf) | ((with_reducible refine fun (K1 : KT) hK => ?_); conv => whnf) | ((with_reducible show K1 _ _); subst hK; conv => whnf) | (with_reducible exact rfl) | ((with_reducible refine d7 (fun h => ?_) (fun h => ?_)) <;> first | contradiction | (subst h; conv => whnf) | (conv => whnf)) | ((with_reducible refine e9 (fun h => ?_) (fun h => ?_)) <;> first | (exact u2 h asmR) | (exact u2 asmR h) | (conv => whnf)) | (refine ⟨(rfl : d4 _ = true), rfl, ?_⟩; conv => whnf) | (with_reducible refine q8 ?_ ?_) | (with_reducible refine p9 ?_ ?_) | refine p3 ⟨?_⟩ ⟨?_⟩ | (refine Exists.intro ({k : Nat // k ≤ c.length}) (Exists.intro (fun ⟨k, hk⟩ => x5 Tryz.f98.ntmps [(1, .dat (.i v)), (7, .dat (.seq .ints c)), (8, .dat (.i c.length)), (9, .dat (.i k))] []) (Exists.intro (fun ⟨k, hk⟩ => c.length - k) (Exists.intro ⟨0, Nat.zero_le _⟩ (And.intro (SubP.sub (σ := []) ⟨⟨rfl, rfl, rfl⟩, ⟨j0 ?_, j0 ?_, j0 ?_, j0 ?_, trivial⟩, trivial⟩) (fun ⟨k, hk⟩ => ?_))))); rotate_right; conv => whnf) | (refine Exists.intro (⟨k + 1, ?_⟩ : {k : Nat // k ≤ c.length}) (And.intro ?_ (SubP.sub (σ := []) ⟨⟨rfl, rfl, rfl⟩, ⟨j0 ?_, j0 ?_, j0 ?_, j0 ?_, trivial⟩, trivial⟩))) | ((with_reducible first | refine s0 (g := 114) ?_ | show Exists _); refine ⟨_, i_isLit (hv := ?_) (hx := ?_) .., rfl, ?_⟩; rotate_right; conv => whnf) | ((with_reducible show d3 _ _ _ _ _ _); conv => whnf) | (intro h; conv => whnf))
  all_goals repeat clear hK K1
  all_goals first | (with_reducible assumption) | contradiction | exact lM hc asmR | exact (lM hc asmR).2.1 | exact (lM hc asmR).2.2 | exact (lM hc asmR).1 asmR | omega | ((with_reducible show (_ : Nat) < _); (dsimp only; omega)) | exact congrArg (Dat.int .i64) (tA asmR asmR).symm | (have q := hc.len; omega) | exact rfl | skip
theorem cl_inc {v : Int} {c : List Int} {k : Nat} (h : ClQ v c) (hk : ((k : Int) + 1) < c.length) : ((c.getD ((k : Int) + 1).toNat K.ints.dflt).natAbs : Int) > ((c.getD (k : Int).toNat K.ints.dflt).natAbs : Int) := by
  have e1 : ((k : Int) + 1).toNat = k + 1 := by omega
  have e2 : (k : Int).toNat = k := Int.toNat_natCast k
  have q := h.inc k omG
  rw [e1, e2]
  exact_mod_cast q
theorem wr_p {k : Nat} {n : Int} (h : (k : Int) + 1 < n) (hn : n ≤ 100) : IntKind.i64.wrap ((k : Int) + 1 - 1) = k := by
  rw [Int.add_sub_cancel]; exact z1 omG omG
theorem cl_s {v : Int} {c : List Int} {k : Nat} (h : ClQ v c) (hv : v ≤ 6) (hk : ((k : Int) + 1) < c.length) : (-99999 ≤ c.getD ((k : Int) + 1).toNat K.ints.dflt ∧ c.getD ((k : Int) + 1).toNat K.ints.dflt ≤ 99999) ∧ (-99999 ≤ c.getD (k : Int).toNat K.ints.dflt ∧ c.getD (k : Int).toNat K.ints.dflt ≤ 99999) :=
  ⟨dL (k := k + 1) (hH h hv) omG, dL (hH h hv) omG⟩
theorem qdu (c : List Int) (v : Int) (hv : 0 ≤ v ∧ v ≤ 6) (hc : ClQ v c) : CallsV Tryz.prog 76 [.dat (.seq .ints c), .dat (.i v)] (.dat (.bool true)) := by
  refine oV Tryz.func76 ⟨?_⟩
  repeat' (first | ((with_reducible refine fun (K1 : KT) hK => ?_); (with_reducible refine j5 ?_ ?_); exact rfl; conv => whnf) | ((with_reducible refine Alt.l ?_); conv => whnf) | ((with_reducible refine fun (K1 : KT) hK => ?_); conv => whnf) | ((with_reducible show K1 _ _); subst hK; conv => whnf) | (with_reducible exact rfl) | ((with_reducible refine d7 (fun h => ?_) (fun h => ?_)) <;> first | contradiction | (subst h; conv => whnf) | (conv => whnf)) | ((with_reducible refine e9 (fun h => ?_) (fun h => ?_)) <;> first | (exact u2 h asmR) | (exact u2 asmR h) | (conv => whnf)) | (refine ⟨(rfl : d4 _ = true), rfl, ?_⟩; conv => whnf) | (with_reducible refine q8 ?_ ?_) | (with_reducible refine p9 ?_ ?_) | refine p3 ⟨?_⟩ ⟨?_⟩ | (refine Exists.intro ({k : Nat // k ≤ c.length}) (Exists.intro (fun ⟨k, hk⟩ => x5 Tryz.f76.ntmps [(0, .dat (.seq .ints c)), (5, .dat (.i ((k : Int) + 1)))] []) (Exists.intro (fun ⟨k, hk⟩ => c.length - k) (Exists.intro ⟨0, Nat.zero_le _⟩ (And.intro (SubP.sub (σ := []) ⟨⟨rfl, rfl, rfl⟩, ⟨j0 ?_, j0 ?_, trivial⟩, trivial⟩) (fun ⟨k, hk⟩ => ?_))))); rotate_right; conv => whnf) | (refine Exists.intro (⟨k + 1, ?_⟩ : {k : Nat // k ≤ c.length}) (And.intro ?_ (SubP.sub (σ := []) ⟨⟨rfl, rfl, rfl⟩, ⟨j0 ?_, j0 ?_, trivial⟩, trivial⟩))) | ((with_reducible first | refine s0 (g := 98) ?_ | show Exists _); refine ⟨_, qdt (hv := ?_) (hc := ?_) .., rfl, ?_⟩; rotate_right; conv => whnf) | ((with_reducible first | refine s0 (g := 99) ?_ | show Exists _); refine ⟨_, i_varOf (h0 := ?_) (h1 := ?_) .., rfl, ?_⟩; rotate_right; conv => whnf) | ((with_reducible show d3 _ _ _ _ _ _); conv => whnf) | (intro h; conv => whnf))
  all_goals repeat clear hK K1
  all_goals first | (with_reducible assumption) | contradiction | exact rfl | exact hv.1 | exact hv.2 | omega | ((with_reducible show (_ : Nat) < _); (dsimp only; omega)) | (have q := hc.len; have e := wr_p (k := k) asmR omG; have e2 := cl_inc hc asmR; have e3 := cl_s hc hv.2 asmR; (try rw [e]); (try rw [e] at h); first | omega | exact e3.1.1 | exact e3.1.2 | exact e3.2.1 | exact e3.2.2 | (exfalso; omega) | exact absurd asmR (Int.not_le.2 e2)) | (have q := hc.len; exact congrArg (Dat.int .i64) (z1 omG omG).symm) | skip
theorem lY (v : Int) (cl : List (List Int)) (hf : ForQ v cl) : CallsV Tryz.prog 38 [.agg [.dat (.i v), .dat (.seq .intss cl)]] (.dat (.bool true)) := by
  refine oV Tryz.func38 ⟨?_⟩
  repeat' (first | ((with_reducible refine fun (K1 : KT) hK => ?_); (with_reducible refine j5 ?_ ?_); exact rfl; conv => whnf) | ((with_reducible refine fun (K1 : KT) hK => ?_); conv => whnf) | ((with_reducible show K1 _ _); subst hK; conv => whnf) | (with_reducible exact rfl) | ((with_reducible refine a8 ?_); conv => whnf) | ((with_reducible refine m9 ?_); conv => whnf) | ((with_reducible refine f9 ?_); conv => whnf) | ((with_reducible refine d7 (fun h => ?_) (fun h => ?_)) <;> first | contradiction | (subst h; conv => whnf) | (conv => whnf)) | ((with_reducible refine mD (fun h => ?_) (fun h => ?_)) <;> first | contradiction | (subst h; conv => whnf) | (conv => whnf)) | ((with_reducible refine e9 (fun h => ?_) (fun h => ?_)) <;> first | (exact u2 h asmR) | (exact u2 asmR h) | (conv => whnf)) | (refine ⟨(rfl : d4 _ = true), rfl, ?_⟩; conv => whnf) | (with_reducible refine q8 ?_ ?_) | (with_reducible refine p9 ?_ ?_) | refine p3 ⟨?_⟩ ⟨?_⟩ | (refine Exists.intro ({k : Nat // k ≤ cl.length}) (Exists.intro (fun ⟨k, hk⟩ => x5 Tryz.f38.ntmps [(1, .ptr 1 0), (20, .dat (.seq .intss cl)), (21, .dat (.i cl.length)), (22, .dat (.i k))] [(1, .box [.dat (.i v), .dat (.seq .intss cl)])]) (Exists.intro (fun ⟨k, hk⟩ => cl.length - k) (Exists.intro ⟨0, Nat.zero_le _⟩ (And.intro (SubP.sub (σ := [(1, some 1)]) ⟨⟨rfl, rfl, rfl⟩, ⟨⟨rfl, rfl⟩, j0 ?_, j0 ?_, j0 ?_, trivial⟩, ⟨⟨g0 ?_, g0 ?_, trivial⟩, trivial⟩⟩) (fun ⟨k, hk⟩ => ?_))))); rotate_right; conv => whnf) | (refine Exists.intro (⟨k + 1, ?_⟩ : {k : Nat // k ≤ cl.length}) (And.intro ?_ (SubP.sub (σ := [(1, some 1)]) ⟨⟨rfl, rfl, rfl⟩, ⟨⟨rfl, rfl⟩, j0 ?_, j0 ?_, j0 ?_, trivial⟩, ⟨⟨g0 ?_, g0 ?_, trivial⟩, trivial⟩⟩))) | ((with_reducible first | refine s0 (g := 76) ?_ | show Exists _); refine ⟨_, qdu (hv := ?_) (hc := ?_) .., rfl, ?_⟩; rotate_right; conv => whnf) | ((with_reducible show d3 _ _ _ _ _ _); conv => whnf) | (intro h; conv => whnf))
  all_goals repeat clear hK K1
  all_goals first | (with_reducible assumption) | contradiction | exact nF hf asmR | ((with_reducible show (_ : Nat) < _); (dsimp only; omega)) | exact congrArg (Dat.int .i64) (tA asmR asmR).symm | (have q := hf.hv; have q2 := hf.few; first | omega | (exfalso; omega)) | exact rfl | skip
theorem fo_sz {v : Int} {cl : List (List Int)} {k : Nat} (h : ForQ v cl) (hk : k ≤ cl.length) : (nB v cl k).size ≤ 90000 := by
  have q := cZ h k hk
  have := h.few
  omega
theorem fc_sz {v : Int} {cl : List (List Int)} {k : Nat} (h : ForQ v cl) (hk : (k : Int) < cl.length) : (n5 (cl.getD (k : Int).toNat K.intss.dflt)).size ≤ 808 := by
  have q := nF h hk
  have q2 := eM (hH q h.hv.2)
  have := q.len
  omega
theorem fo_ne (v : Int) (cl : List (List Int)) : ∀ k, (nB v cl k).data.toList ≠ []
  | 0 => eF v
  | k + 1 => by
    rw [nB, cB]
    exact fun e => fo_ne v cl k (List.append_eq_nil_iff.1 e).1
theorem g_wsE (s : ByteArray) (hs : s.size ≤ 1048576) : CallsG Tryz.prog 39 [.ptr 0 0, .dat (.str s)] [.box [.nilp, .nils]] 1 (fun res B => res = .tup [.dat (.i s.size), .dat (.err false)] ∧ B = [.box [.ptr 0 0, .row 1], .row 5 .bytes (m4 s) false]) := by
  have h := g_ws0 ByteArray.empty s hs rfl
  rwa [ByteArray.empty_append] at h
theorem fo_end {v : Int} {cl : List (List Int)} {k : Nat} (hk : k ≤ cl.length) (h : ¬ (k : Int) < cl.length) : yD v cl = nB v cl k := by
  have e : k = cl.length := by omega
  rw [e]; rfl
theorem pY (v : Int) (cl : List (List Int)) (hf : ForQ v cl) : CallsV Tryz.prog 13 [.agg [.dat (.i v), .dat (.seq .intss cl)]] (.dat (.str (yD v cl))) := by
  refine oV Tryz.func13 ⟨?_⟩
  repeat' (first | ((with_reducible refine fun (K1 : KT) hK => ?_); (with_reducible refine j5 ?_ ?_); exact rfl; conv => whnf) | ((with_reducible refine fun (K1 : KT) hK => ?_); conv => whnf) | ((with_reducible show K1 _ _); subst hK; conv => whnf) | (with_reducible exact rfl) | ((with_reducible refine d7 (fun h => ?_) (fun h => ?_)) <;> first | contradiction | (subst h; conv => whnf) | (conv => whnf)) | ((with_reducible refine e9 (fun h => ?_) (fun h => ?_)) <;> first | (exact u2 h asmR) | (exact u2 asmR h) | (conv => whnf)) | (refine ⟨(rfl : d4 _ = true), rfl, ?_⟩; conv => whnf) | (with_reducible refine q8 ?_ ?_) | refine p3 ⟨?_⟩ ⟨?_⟩ | (refine Exists.intro ({k : Nat // k ≤ cl.length}) (Exists.intro (fun ⟨k, hk⟩ => x5 Tryz.f13.ntmps [(3, .ptr 3 0), (14, .dat (.seq .intss cl)), (15, .dat (.i cl.length)), (16, .dat (.i k))] [(3, .box [.ptr 3 0, .row 103]), (103, .row 5 .bytes (m4 (nB v cl k)) false)]) (Exists.intro (fun ⟨k, hk⟩ => cl.length - k) (Exists.intro ⟨0, Nat.zero_le _⟩ (And.intro (SubP.sub (σ := [(3, some 3), (103, some 13001)]) ⟨⟨rfl, rfl, rfl⟩, ⟨⟨rfl, rfl⟩, j0 ?_, j0 ?_, j0 ?_, trivial⟩, ⟨⟨⟨rfl, rfl⟩, rfl, trivial⟩, ⟨⟨rfl, rfl⟩, ?_⟩, trivial⟩⟩) (fun ⟨k, hk⟩ => ?_))))); rotate_right; conv => whnf) | (refine Exists.intro (⟨k + 1, ?_⟩ : {k : Nat // k ≤ cl.length}) (And.intro ?_ (SubP.sub (σ := [(3, some 3), (103, some 24001)]) ⟨⟨rfl, rfl, rfl⟩, ⟨⟨rfl, rfl⟩, j0 ?_, j0 ?_, j0 ?_, trivial⟩, ⟨⟨⟨rfl, rfl⟩, rfl, trivial⟩, ⟨⟨rfl, rfl⟩, ?_⟩, trivial⟩⟩))) | ((with_reducible first | refine s0 (g := 38) ?_ | show Exists _); refine ⟨_, lY (hf := ?_) .., rfl, ?_⟩; rotate_right; conv => whnf) | ((with_reducible first | refine s0 (g := 40) ?_ | show Exists _); refine ⟨_, wG (h0 := ?_) (h1 := ?_) .., rfl, ?_⟩; rotate_right; conv => whnf) | ((with_reducible refine j3 (g := 39) ?_); refine ⟨_, _, aM (hx := ?_) (hs := ?_) .., zV ?_⟩; rotate_right; conv => whnf) | ((with_reducible refine j3 (g := 39) ?_); refine ⟨_, _, g_wsE (hs := ?_) .., zV ?_⟩; rotate_right; conv => whnf) | ((with_reducible first | refine s0 (g := 41) ?_ | show Exists _); refine ⟨_, oY (hl := ?_) (hn := ?_) .., rfl, ?_⟩; rotate_right; conv => whnf) | ((with_reducible refine j3 (g := 33) ?_); refine ⟨_, _, sP (hx := ?_) .., zV ?_⟩; rotate_right; conv => whnf) | ((with_reducible show d3 _ _ _ _ _ _); conv => whnf) | (intro h; conv => whnf))
  all_goals repeat clear hK K1
  all_goals first | (with_reducible assumption) | contradiction | exact nF hf asmR | exact (fo_ne v cl _ asmR).elim | exact hH (nF hf asmR) hf.hv.2 | exact Nat.le_trans (nF hf asmR).len (by decide) | exact Nat.le_trans (fo_sz hf hk) (by decide) | exact Nat.le_trans (fF (by have := hf.hv; omega) (by have := hf.hv; omega)) (by decide) | exact congrArg Dat.str (fo_end hk asmR) | (have q := fc_sz hf asmR; have e : (ByteArray.mk #[124]).size = 1 := rfl; (try rw [ByteArray.size_append]); have hm : maxLen = 9223372036854775807 := rfl; omega) | ((with_reducible show (_ : Nat) < _); (dsimp only; omega)) | exact congrArg (Dat.int .i64) (tA asmR asmR).symm | (have q := hf.hv; have q2 := hf.few; first | omega | (exfalso; omega)) | exact rfl | skip
/-! ### read back -/
theorem qer (v : Int) (cl : List (List Int)) (hf : ForQ v cl) : CallsF Tryz.prog 35 [.dat (.str (yD v cl)), .dat (.str ⟨#[124]⟩)] true (fun res B => res = .row 0 ∧ B = [.row 9 .strs (s1 v :: cl.map n5) false]) := by
  have h := qZ 124 (yD v cl) (Nat.le_trans (fo_sz hf (Nat.le_refl _)) (by decide))
  rwa [qbs] at h
theorem qd2 (n : Int) (h0 : -99999 ≤ n) (h1 : n ≤ 99999) : CallsV Tryz.prog 36 [.dat (.str (s1 n))] (.tup [.dat (.i n), .dat (.bool true)]) := by
  have h := fJ (s1 n) (Nat.le_trans (fF h0 h1) (by decide))
  rwa [cG omG omG] at h
theorem iY (l : List Int) (hl : l.length ≤ 1000) (hn : lB l = true) : CallsV Tryz.prog 37 [.dat (.str (n5 l))] (.tup [.dat (.seq .ints l), .dat (.bool true)]) := by
  have h := qd1 (n5 l) (Nat.le_trans (eM hn) omG)
  rwa [ix_fmt hn] at h
theorem mapD {κ : K} {f : κ.T → ByteArray} {l : List κ.T} {k : Nat} (h : (k : Int) < l.length) : (l.map f).getD (k : Int).toNat K.strs.dflt = f (l.getD (k : Int).toNat κ.dflt) := by
  have h' : k < l.length := by omega
  rw [Int.toNat_natCast, List.getD_eq_getElem?_getD, List.getElem?_map, List.getElem?_eq_getElem h', List.getD_eq_getElem?_getD, List.getElem?_eq_getElem h']; rfl
theorem qd0 (v : Int) (cl : List (List Int)) (k : Nat) (hf : ForQ v cl) (hk : (k : Int) < (cl.map n5).length) : CallsV Tryz.prog 37 [.dat (.str ((cl.map n5).getD (k : Int).toNat K.strs.dflt))] (.tup [.dat (.seq .ints (cl.getD (k : Int).toNat K.intss.dflt)), .dat (.bool true)]) := by
  rw [List.length_map] at hk
  have q := nF hf hk
  have e : (cl.map n5).getD (k : Int).toNat K.strs.dflt = n5 (cl.getD (k : Int).toNat K.intss.dflt) := mapD (κ := .intss) hk
  rw [e]
  exact iY _ (Nat.le_trans q.len (by decide)) (hH q hf.hv.2)
theorem cl_push {cl : List (List Int)} {k : Nat} (hk : (k : Int) < (cl.map n5).length) : cl.take (k + 1) = cl.take k ++ [cl.getD (k : Int).toNat K.intss.dflt] := by
  have hk' : k < cl.length := by rw [List.length_map] at hk; omega
  rw [List.take_succ_eq_append_getElem hk', Int.toNat_natCast, List.getD_eq_getElem?_getD, List.getElem?_eq_getElem hk']; rfl
theorem cl_all {cl : List (List Int)} {k : Nat} (hk : ¬ (k : Int) < (cl.map n5).length) : cl.take k = cl := List.take_of_length_le (by rw [List.length_map] at hk; omega)
theorem cl_k {cl : List (List Int)} {k : Nat} (hk : (k : Int) < (cl.map n5).length) : k + 1 ≤ cl.length := by rw [List.length_map] at hk; omega
theorem cl_dec {cl : List (List Int)} {k : Nat} (hk : (k : Int) < (cl.map n5).length) : cl.length - (k + 1) < cl.length - k := by rw [List.length_map] at hk; omega
theorem cl_w {v : Int} {cl : List (List Int)} {k : Nat} (hf : ForQ v cl) (hk : (k : Int) < (cl.map n5).length) : IntKind.i64.wrap ((k : Int) + 1) = ((k + 1 : Nat) : Int) := by
  rw [List.length_map] at hk
  have := hf.few
  rw [z1 omG omG]; omega
theorem cl_m {v : Int} {cl : List (List Int)} {k : Nat} {x : List Int} (hf : ForQ v cl) : (cl.take k).length + [x].length ≤ maxLen := by
  have := hf.few
  rw [List.length_take]
  have hm : maxLen = 9223372036854775807 := rfl
  show min k cl.length + 1 ≤ _
  omega
theorem cl_b {v : Int} {cl : List (List Int)} {k : Nat} {x : List Int} (hf : ForQ v cl) : ((cl.take k).length + [x].length) * 24 ≤ 140737488355328 := by
  have := hf.few
  rw [List.length_take]
  show (min k cl.length + 1) * 24 ≤ _
  omega
theorem qd5 (v : Int) (cl : List (List Int)) (hf : ForQ v cl) : CallsV Tryz.prog 12 [.dat (.str (yD v cl))] (.tup [.agg [.dat (.i v), .dat (.seq .intss cl)], .dat (.bool true)]) := by
  refine oV Tryz.func12 ⟨?_⟩
  repeat' (first | ((with_reducible refine fun (K1 : KT) hK => ?_); (with_reducible refine j5 ?_ ?_); exact rfl; conv => whnf) | ((with_reducible refine Alt.l ?_); (conv => whnf); (fail_if_success (with_reducible show False))) | ((with_reducible refine Alt.r ?_); conv => whnf) | ((with_reducible refine fun (K1 : KT) hK => ?_); conv => whnf) | ((with_reducible show K1 _ _); subst hK; conv => whnf) | (with_reducible exact rfl) | ((with_reducible refine f9 ?_); conv => whnf) | ((with_reducible refine d7 (fun h => ?_) (fun h => ?_)) <;> first | contradiction | (subst h; conv => whnf) | (conv => whnf)) | ((with_reducible refine e9 (fun h => ?_) (fun h => ?_)) <;> first | (exact u2 h asmR) | (exact u2 asmR h) | (conv => whnf)) | ((with_reducible refine lD (fun h => ?_) (fun h => ?_)) <;> first | (exact u2 h asmR) | (exact u2 asmR h) | (conv => whnf)) | (refine ⟨(rfl : d4 _ = true), rfl, ?_⟩; conv => whnf) | (with_reducible refine q8 ?_ ?_) | (with_reducible refine p9 ?_ ?_) | (with_reducible refine fE ?_ ?_) | refine p3 ⟨?_⟩ ⟨?_⟩ | (refine Exists.intro ({k : Nat // k ≤ cl.length}) (Exists.intro (fun ⟨k, hk⟩ => x5 Tryz.f12.ntmps [(0, .dat (.str (yD v cl))), (2, .ptr 2 0), (7, .ptr 7 0), (27, .dat (.seq .strs (cl.map n5))), (28, .dat (.i (cl.map n5).length)), (29, .dat (.i k))] [(2, .box [.dat (.i 0), .nils]), (7, .box [.dat (.i v), .row 107]), (107, .row 47 .intss (cl.take k) false)]) (Exists.intro (fun ⟨k, hk⟩ => cl.length - k) (Exists.intro ⟨0, Nat.zero_le _⟩ (And.intro (SubP.sub (σ := [(2, some 2), (7, some 7), (107, none)]) ⟨⟨rfl, rfl, rfl⟩, ⟨j0 ?_, ⟨rfl, rfl⟩, ⟨rfl, rfl⟩, j0 ?_, j0 ?_, j0 ?_, trivial⟩, ⟨⟨g0 ?_, trivial, trivial⟩, ⟨g0 ?_, rfl, trivial⟩, ?_, trivial⟩⟩) (fun ⟨k, hk⟩ => ?_))))); rotate_right; conv => whnf) | (refine Exists.intro (⟨k + 1, ?_⟩ : {k : Nat // k ≤ cl.length}) (And.intro ?_ (SubP.sub (σ := [(2, some 2), (7, some 7), (107, some 45)]) ⟨⟨rfl, rfl, rfl⟩, ⟨j0 ?_, ⟨rfl, rfl⟩, ⟨rfl, rfl⟩, j0 ?_, j0 ?_, j0 ?_, trivial⟩, ⟨⟨g0 ?_, trivial, trivial⟩, ⟨g0 ?_, rfl, trivial⟩, ⟨⟨rfl, rfl⟩, ?_⟩, trivial⟩⟩))) | (refine Exists.intro (⟨k + 1, ?_⟩ : {k : Nat // k ≤ cl.length}) (And.intro ?_ (SubP.sub (σ := [(2, some 2), (7, some 7), (107, some 46)]) ⟨⟨rfl, rfl, rfl⟩, ⟨j0 ?_, ⟨rfl, rfl⟩, ⟨rfl, rfl⟩, j0 ?_, j0 ?_, j0 ?_, trivial⟩, ⟨⟨g0 ?_, trivial, trivial⟩, ⟨g0 ?_, rfl, trivial⟩, ⟨⟨rfl, rfl⟩, ?_⟩, trivial⟩⟩))) | ((with_reducible refine aB (g := 35) ?_); refine ⟨_, _, qer (hf := ?_) .., rfl, zV ?_⟩; rotate_right; conv => whnf) | ((with_reducible first | refine s0 (g := 36) ?_ | show Exists _); refine ⟨_, qd2 (h0 := ?_) (h1 := ?_) .., rfl, ?_⟩; rotate_right; conv => whnf) | ((with_reducible first | refine s0 (g := 37) ?_ | show Exists _); refine ⟨_, qd0 (hf := by assumption) (hk := by assumption) .., rfl, ?_⟩; rotate_right; conv => whnf) | ((with_reducible first | refine s0 (g := 38) ?_ | show Exists _); refine ⟨_, lY (hf := ?_) .., rfl, ?_⟩; rotate_right; conv => whnf) | ((with_reducible first | refine s0 (g := 13) ?_ | show Exists _); refine ⟨_, pY (hf := ?_) .., rfl, ?_⟩; rotate_right; conv => whnf) | ((with_reducible show d3 _ _ _ _ _ _); conv => whnf) | (intro h; conv => whnf))
  all_goals repeat clear hK K1
  all_goals first | (with_reducible assumption) | contradiction | exact trivial | (have e := cl_all asmR; first | (rw [e]; first | exact hf | exact rfl | exact ⟨rfl, rfl, trivial⟩) | (have e2 := str_ne h; rw [e] at e2; exact absurd rfl e2)) | exact cl_k asmR | exact cl_dec asmR | exact congrArg (Dat.int .i64) (cl_w hf asmR).symm | exact cl_m hf | exact cl_b hf | omega | (have q := hf.hv; omega) | (have q := hf.hv; exact Nat.succ_pos _) | (rw [List.length_cons]; omega) | exact (tK (cl_push asmR)) | ((with_reducible show (_ : Nat) < _); (dsimp only; omega)) | exact rfl | skip
end Vg
