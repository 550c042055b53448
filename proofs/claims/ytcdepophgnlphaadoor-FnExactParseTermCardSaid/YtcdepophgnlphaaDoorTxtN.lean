/- The program's text of a term: contracts. Condition: the term is good and no larger than terms may be. -/
import Derived.Test.YtcdepophgnlphaaDoorTxtM
import Derived.Test.YtcdepophgnlphaaDoorTxtI
import Derived.Test.YtcdepophgnlphaaDoorRg
namespace Vg
open Go Go.Proofs
set_option maxRecDepth 100000
set_option maxHeartbeats 40000000
structure IHw (m : Nat) : Prop where
  call : ∀ (op w n : Int) (nm : ByteArray) (ks : List V.Term) (x : ByteArray), okT ⟨op, w, n, nm, ks⟩ = true → sizeT ⟨op, w, n, nm, ks⟩ < m → x.size + 40 * sizeT ⟨op, w, n, nm, ks⟩ ≤ 20000 → CallsG Tryd.prog 37 [.ptr 0 0, .agg [.dat (.i op), .dat (.i w), .dat (.i n), .dat (.str nm), .dat (.seq .terms ks)]] [.box [.ptr 0 0, .row 1], .row 5 .bytes (j4 x) false] 1
    (fun res B => res = .tup [] ∧ B = [.box [.ptr 0 0, .row 1], .row 5 .bytes (j4 (x ++ m0 (fmtL ⟨op, w, n, nm, ks⟩))) false])
theorem ih_w {m : Nat} (ih : IHw m) {op w n : Int} {nm : ByteArray} {ks : List V.Term} {x : ByteArray} (hk : okT ⟨op, w, n, nm, ks⟩ = true) (hs : sizeT ⟨op, w, n, nm, ks⟩ < m) (hx : x.size + 40 * sizeT ⟨op, w, n, nm, ks⟩ ≤ 20000) :
    CallsG Tryd.prog 37 [.ptr 0 0, .agg [.dat (.i op), .dat (.i w), .dat (.i n), .dat (.str nm), .dat (.seq .terms ks)]] [.box [.ptr 0 0, .row 1], .row 5 .bytes (j4 x) false] 1
    (fun res B => res = .tup [] ∧ B = [.box [.ptr 0 0, .row 1], .row 5 .bytes (j4 (x ++ m0 (fmtL ⟨op, w, n, nm, ks⟩))) false]) := ih.call op w n nm ks x hk hs hx
theorem aS : ∀ {ks : List V.Term}, okTs ks = true → ∀ i, okTs (ks.take i) = true
  | [], _, i => by rw [List.take_nil]; rfl
  | t :: ks, h, 0 => rfl
  | t :: ks, h, i + 1 => by
    rw [okTs, Bool.and_eq_true] at h
    rw [List.take_succ_cons, okTs, h.1, aS h.2 i]; rfl
section
variable {t : V.Term} {x : ByteArray} {i : Nat}
theorem pQ : ∀ a b : List V.Term, d3 (a ++ b) = d3 a + d3 b
  | [], b => by rw [List.nil_append, d3, Nat.zero_add]
  | t :: a, b => by rw [List.cons_append, d3, d3, pQ a b, Nat.add_assoc]
theorem fw_b (hk : okT t = true) (hop : 0 ≤ t.op ∧ t.op ≤ 22) (h0 : ¬ t.op = 0) (h1 : ¬ t.op = 22) (h : (i : Int) < t.kids.length) : (hdL t.op t.w t.n ++ z1 (t.kids.take i)).length + 1 + 40 * sizeT (t.kids.getD (i : Int).toNat K.terms.dflt) ≤ 40 * sizeT t := by
  have hi := cC hk
  have l1 := rE hi.2.1 hi.2.2
  have l2 := rE (n := t.w) omG omG
  have l3 := zL (op := t.op) omG omG
  have l4 := nN (t.kids.take i) (aS (lB hk) i)
  have l5 : d3 t.kids = d3 (t.kids.take i) + d3 (t.kids.drop i) := by conv => lhs; rw [← List.take_append_drop i t.kids, pQ]
  have l6 : t.kids.drop i = t.kids.getD (i : Int).toNat K.terms.dflt :: t.kids.drop (i + 1) := by
    have h' : i < t.kids.length := by omega
    rw [List.drop_eq_getElem_cons h', Int.toNat_natCast, List.getD_eq_getElem?_getD, List.getElem?_eq_getElem h']; rfl
  rw [l6, d3] at l5
  have l7 : sizeT t = 1 + d3 t.kids := by cases t; rw [sizeT]
  have l8 : (if t.op = 19 then 32 :: r0 t.n else []).length ≤ 6 := by
    split
    · rw [List.length_cons]; omega
    · exact Nat.zero_le _
  have l9 : (if 19 ≤ t.op ∧ t.op ≤ 21 then 32 :: r0 t.w else []).length ≤ 6 := by
    split
    · rw [List.length_cons]; omega
    · exact Nat.zero_le _
  unfold hdL
  simp only [List.length_append, List.length_cons]
  omega
theorem oD (a b c : ByteArray) : a ++ b ++ c = a ++ (b ++ c) := ByteArray.append_assoc
theorem fw_c (h : t.op = 0) : [Blk.box [AV.ptr 0 0, AV.row (0 + 1)], Blk.row 5 K.bytes (j4 (x ++ (u2 t.w ++ { data := #[58] } ++ u2 t.n))) false] = [Blk.box [AV.ptr 0 0, AV.row (0 + 1)], Blk.row 5 K.bytes (j4 (x ++ m0 (fmtL t))) false] := by rw [fs_c h]
theorem fw_v (h : t.op = 22) : [Blk.box [AV.ptr 0 0, AV.row (0 + 1)], Blk.row 5 K.bytes (j4 (x ++ (t.name ++ { data := #[58] } ++ u2 t.w))) false] = [Blk.box [AV.ptr 0 0, AV.row (0 + 1)], Blk.row 5 K.bytes (j4 (x ++ m0 (fmtL t))) false] := by rw [fs_v h]
theorem fw_e (h0 : ¬ t.op = 0) (h1 : ¬ t.op = 22) (h : ¬ (i : Int) < t.kids.length) : [Blk.box [AV.ptr 0 0, AV.row (0 + 1)], Blk.row 5 K.bytes (j4 (x ++ m0 (hdL t.op t.w t.n ++ z1 (t.kids.take i)) ++ { data := #[41] })) false] = [Blk.box [AV.ptr 0 0, AV.row (0 + 1)], Blk.row 5 K.bytes (j4 (x ++ m0 (fmtL t))) false] := by
  rw [eV h0 h1 h, oD]
theorem fw_s {b : Bs} (h : (i : Int) < t.kids.length) : (⟨K.bytes, j4 (x ++ m0 (b ++ z1 (t.kids.take (i + 1))))⟩ : (κ : K) × List κ.T) = ⟨K.bytes, j4 (x ++ m0 (b ++ z1 (t.kids.take i)) ++ { data := #[32] } ++ m0 (fmtL ⟨(t.kids.getD (i : Int).toNat K.terms.dflt).op, (t.kids.getD (i : Int).toNat K.terms.dflt).w, (t.kids.getD (i : Int).toNat K.terms.dflt).n, (t.kids.getD (i : Int).toNat K.terms.dflt).name, (t.kids.getD (i : Int).toNat K.terms.dflt).kids⟩))⟩ := by
  rw [dV h]; simp only [oD]
theorem hdw_1 (h : t.op = 19) : m0 (hdL t.op t.w t.n) = { data := #[40] } ++ a7 t.op ++ ({ data := #[32] } ++ u2 t.n) ++ ({ data := #[32] } ++ u2 t.w) := by
  rw [hd_1 h (w7.2 ⟨by omega, by omega⟩)]; simp only [oD]
theorem hdw_2 (h : ¬ t.op = 19) (h2 : 19 ≤ t.op ∧ t.op ≤ 21) : m0 (hdL t.op t.w t.n) = { data := #[40] } ++ a7 t.op ++ ({ data := #[32] } ++ u2 t.w) := by
  rw [hd_2 h (w7.2 h2)]; simp only [oD]
theorem hdw_3 (h : ¬ t.op = 19) (h2 : ¬ t.op = 20) (h3 : ¬ t.op = 21) : m0 (hdL t.op t.w t.n) = { data := #[40] } ++ a7 t.op := by
  refine hd_3 h ?_
  cases q : inP t.op 19 21 with
  | false => rfl
  | true => have := w7.1 q; omega
theorem fw_1 (h : t.op = 19) : (⟨K.bytes, j4 (x ++ m0 (hdL t.op t.w t.n ++ z1 (t.kids.take 0)))⟩ : (κ : K) × List κ.T) = ⟨K.bytes, j4 (x ++ ({ data := #[40] } ++ a7 t.op) ++ ({ data := #[32] } ++ u2 t.n) ++ ({ data := #[32] } ++ u2 t.w))⟩ := by
  rw [List.take_zero, z1, List.append_nil, hdw_1 h]; simp only [oD]
theorem fw_2 (h : ¬ t.op = 19) (h2 : t.op = 20) : (⟨K.bytes, j4 (x ++ m0 (hdL t.op t.w t.n ++ z1 (t.kids.take 0)))⟩ : (κ : K) × List κ.T) = ⟨K.bytes, j4 (x ++ ({ data := #[40] } ++ a7 t.op) ++ ({ data := #[32] } ++ u2 t.w))⟩ := by
  rw [List.take_zero, z1, List.append_nil, hdw_2 h omG]; simp only [oD]
theorem fw_3 (h : ¬ t.op = 19) (h2 : t.op = 21) : (⟨K.bytes, j4 (x ++ m0 (hdL t.op t.w t.n ++ z1 (t.kids.take 0)))⟩ : (κ : K) × List κ.T) = ⟨K.bytes, j4 (x ++ ({ data := #[40] } ++ a7 t.op) ++ ({ data := #[32] } ++ u2 t.w))⟩ := by
  rw [List.take_zero, z1, List.append_nil, hdw_2 h omG]; simp only [oD]
theorem fw_4 (h : ¬ t.op = 19) (h2 : ¬ t.op = 20) (h3 : ¬ t.op = 21) : (⟨K.bytes, j4 (x ++ m0 (hdL t.op t.w t.n ++ z1 (t.kids.take 0)))⟩ : (κ : K) × List κ.T) = ⟨K.bytes, j4 (x ++ ({ data := #[40] } ++ a7 t.op))⟩ := by
  rw [List.take_zero, z1, List.append_nil, hdw_3 h h2 h3]
end
theorem i_wU (t : V.Term) (x : ByteArray) (ih : IHw (sizeT t)) (hk : okT t = true) (hz : sizeT t ≤ 240) (ho : FmB t) (hop : 0 ≤ t.op ∧ t.op ≤ 22) (hx : x.size + 40 * sizeT t ≤ 20000) : CallsG Tryd.prog 37 [.ptr 0 0, .agg [.dat (.i t.op), .dat (.i t.w), .dat (.i t.n), .dat (.str t.name), .dat (.seq .terms t.kids)]] [.box [.ptr 0 0, .row 1], .row 5 .bytes (j4 x) false] 1 (fun res B => res = .tup [] ∧ B = [.box [.ptr 0 0, .row 1], .row 5 .bytes (j4 (x ++ m0 (fmtL t))) false]) := by
  refine oG Tryd.func37 ⟨?_⟩
  repeat' (first | ((with_reducible refine tX [53] ?_ ?_); exact rfl; (conv => whnf); simp only [List.nil_append, List.cons_append]) | ((with_reducible refine fun (K1 : KT) hK => ?_); refine stW ⟨?_⟩) | ((with_reducible show K1 _ _); subst hK; conv => whnf) | (with_reducible exact rfl) | refine stD ⟨?_⟩ | refine f4 ⟨?_⟩ | ((with_reducible refine SplS.mk (fun h => ?_) (fun h => ?_)) <;> first | exact g7 | (subst h; conv => whnf) | (conv => whnf)) | refine g5 ⟨?_⟩ ⟨?_⟩ | (refine Exists.intro ({i : Nat // i ≤ t.kids.length}) (Exists.intro (fun ⟨i, hi⟩ => x5 Tryd.f37.ntmps [(0, .ptr 900000 0), (3, .ptr 3 0), (66, .dat (.i t.kids.length)), (67, .dat (.i i))] [(900000, .box [.ptr 900000 0, .row 101]), (101, .row 5 .bytes (j4 (x ++ m0 (hdL t.op t.w t.n ++ z1 (t.kids.take i)))) false), (3, .box [.dat (.i t.op), .dat (.i t.w), .dat (.i t.n), .dat (.str t.name), .dat (.seq .terms t.kids)])]) (Exists.intro (fun ⟨i, hi⟩ => t.kids.length - i) (Exists.intro ⟨0, Nat.zero_le _⟩ (And.intro (SubP.sub (σ := [(900000, some 900000), (101, some 36001), (3, some 3)]) ⟨⟨rfl, rfl, rfl⟩, ⟨⟨rfl, rfl⟩, ⟨rfl, rfl⟩, j0 ?_, j0 ?_, trivial⟩, ⟨⟨⟨rfl, rfl⟩, rfl, trivial⟩, ⟨⟨rfl, rfl⟩, ?_⟩, ⟨g0 ?_, g0 ?_, g0 ?_, g0 ?_, g0 ?_, trivial⟩, trivial⟩⟩) (fun ⟨i, hi⟩ => ?_))))); rotate_right; conv => whnf) | (refine Exists.intro ({i : Nat // i ≤ t.kids.length}) (Exists.intro (fun ⟨i, hi⟩ => x5 Tryd.f37.ntmps [(0, .ptr 900000 0), (3, .ptr 3 0), (66, .dat (.i t.kids.length)), (67, .dat (.i i))] [(900000, .box [.ptr 900000 0, .row 101]), (101, .row 5 .bytes (j4 (x ++ m0 (hdL t.op t.w t.n ++ z1 (t.kids.take i)))) false), (3, .box [.dat (.i t.op), .dat (.i t.w), .dat (.i t.n), .dat (.str t.name), .dat (.seq .terms t.kids)])]) (Exists.intro (fun ⟨i, hi⟩ => t.kids.length - i) (Exists.intro ⟨0, Nat.zero_le _⟩ (And.intro (SubP.sub (σ := [(900000, some 900000), (101, some 64001), (3, some 3)]) ⟨⟨rfl, rfl, rfl⟩, ⟨⟨rfl, rfl⟩, ⟨rfl, rfl⟩, j0 ?_, j0 ?_, trivial⟩, ⟨⟨⟨rfl, rfl⟩, rfl, trivial⟩, ⟨⟨rfl, rfl⟩, ?_⟩, ⟨g0 ?_, g0 ?_, g0 ?_, g0 ?_, g0 ?_, trivial⟩, trivial⟩⟩) (fun ⟨i, hi⟩ => ?_))))); rotate_right; conv => whnf) | (refine Exists.intro (⟨i + 1, ?_⟩ : {i : Nat // i ≤ t.kids.length}) (And.intro ?_ (SubP.sub (σ := [(900000, some 900000), (101, some 79001), (3, some 3)]) ⟨⟨rfl, rfl, rfl⟩, ⟨⟨rfl, rfl⟩, ⟨rfl, rfl⟩, j0 ?_, j0 ?_, trivial⟩, ⟨⟨⟨rfl, rfl⟩, rfl, trivial⟩, ⟨⟨rfl, rfl⟩, ?_⟩, ⟨g0 ?_, g0 ?_, g0 ?_, g0 ?_, g0 ?_, trivial⟩, trivial⟩⟩))) | ((with_reducible first | refine p3 (g := 54) ?_ | show Exists _); refine ⟨_, yU (h0 := ?_) (h1 := ?_) .., rfl, ?_⟩; rotate_right; conv => whnf) | ((with_reducible refine d6 (g := 53) ?_); refine ⟨_, _, g_wsU (hx := ?_) (hs := ?_) .., zV ?_⟩; rotate_right; conv => whnf) | ((with_reducible first | refine p3 (g := 48) ?_ | show Exists _); refine ⟨_, aN (h1 := ?_) (h2 := ?_) .., rfl, ?_⟩; rotate_right; conv => whnf) | ((with_reducible refine d6 (g := 37) ?_); refine ⟨_, _, ih_w (ih := by assumption) (hk := ?_) (hs := ?_) (hx := ?_) .., zV ?_⟩; rotate_right; conv => whnf) | (intro h; conv => whnf))
  all_goals repeat clear hK K1
  all_goals first | ((with_reducible show _ ≤ maxLen); (try simp only [sB]); have hm : maxLen = 9223372036854775807 := rfl; have b1 := ho.w; have b2 := ho.n; have b3 := ho.nm; rw [hm]; first | (have b4 := lG (op := t.op) omG omG; have c1 : ({ data := #[32] } : ByteArray).size = 1 := rfl; have c2 : ({ data := #[40] } : ByteArray).size = 1 := rfl; omega) | (have c1 : ({ data := #[58] } : ByteArray).size = 1 := rfl; (try have b5 := b3 asmR); omega) | (have c1 : ({ data := #[32] } : ByteArray).size = 1 := rfl; omega)) | exact fw_e asmR asmR asmR | exact fw_c asmR | exact fw_v asmR | exact fw_s asmR | exact fw_1 asmR | exact fw_2 asmR asmR | exact fw_3 asmR asmR | exact fw_4 asmR asmR asmR | ((with_reducible show okT _ = true); rw [V.Term.eta]; exact fJ hk (i := (i : Int).toNat) omG) | ((with_reducible show sizeT _ < _); rw [V.Term.eta]; exact yB asmR) | ((with_reducible show _ ≤ 20000); have q := fw_b hk hop asmR asmR asmR; have c1 : ({ data := #[32] } : ByteArray).size = 1 := rfl; rw [V.Term.eta, sB, sB, yS]; omega) | ((with_reducible show _ ≤ 1048576); (try simp only [sB]); have b1 := ho.w; have b2 := ho.n; have b3 := ho.nm; have c1 : ({ data := #[32] } : ByteArray).size = 1 := rfl; have c2 : ({ data := #[40] } : ByteArray).size = 1 := rfl; have c3 : ({ data := #[41] } : ByteArray).size = 1 := rfl; have c4 : ({ data := #[58] } : ByteArray).size = 1 := rfl; first | omega | (have b4 := lG (op := t.op) omG omG; omega) | (have b5 := b3 asmR; omega) | (have b6 : (m0 (hdL t.op t.w t.n ++ z1 (t.kids.take i))).size ≤ 9600 := dN asmR asmR ho; omega)) | ((with_reducible show Dat.int _ _ = Dat.int _ _); first | exact congrArg (Dat.int .i64) (uD asmR asmR).symm | exact rfl) | ((with_reducible show (_ : Nat) < _); dsimp only; omega) | (have b1 := ho.w0; have b2 := ho.n0; omega) | skip
theorem i_w0 (t : V.Term) (x : ByteArray) (ih : IHw (sizeT t)) (hk : okT t = true) (hz : sizeT t ≤ 240) (ho : FmB t) (hop : 0 ≤ t.op ∧ t.op ≤ 22) (hx : x.size + 40 * sizeT t ≤ 20000) (hx0 : x = ByteArray.empty) : CallsG Tryd.prog 37 [.ptr 0 0, .agg [.dat (.i t.op), .dat (.i t.w), .dat (.i t.n), .dat (.str t.name), .dat (.seq .terms t.kids)]] [.box [.nilp, .nils]] 1 (fun res B => res = .tup [] ∧ B = [.box [.ptr 0 0, .row 1], .row 5 .bytes (j4 (x ++ m0 (fmtL t))) false]) := by
  refine oG Tryd.func37 ⟨?_⟩
  repeat' (first | ((with_reducible refine tX [53] ?_ ?_); exact rfl; (conv => whnf); simp only [List.nil_append, List.cons_append]) | ((with_reducible refine fun (K1 : KT) hK => ?_); refine stW ⟨?_⟩) | ((with_reducible show K1 _ _); subst hK; conv => whnf) | (with_reducible exact rfl) | refine stD ⟨?_⟩ | refine f4 ⟨?_⟩ | ((with_reducible refine SplS.mk (fun h => ?_) (fun h => ?_)) <;> first | exact g7 | (subst h; conv => whnf) | (conv => whnf)) | refine g5 ⟨?_⟩ ⟨?_⟩ | (refine Exists.intro ({i : Nat // i ≤ t.kids.length}) (Exists.intro (fun ⟨i, hi⟩ => x5 Tryd.f37.ntmps [(0, .ptr 900000 0), (3, .ptr 3 0), (66, .dat (.i t.kids.length)), (67, .dat (.i i))] [(900000, .box [.ptr 900000 0, .row 101]), (101, .row 5 .bytes (j4 (x ++ m0 (hdL t.op t.w t.n ++ z1 (t.kids.take i)))) false), (3, .box [.dat (.i t.op), .dat (.i t.w), .dat (.i t.n), .dat (.str t.name), .dat (.seq .terms t.kids)])]) (Exists.intro (fun ⟨i, hi⟩ => t.kids.length - i) (Exists.intro ⟨0, Nat.zero_le _⟩ (And.intro (SubP.sub (σ := [(900000, some 900000), (101, some 36001), (3, some 3)]) ⟨⟨rfl, rfl, rfl⟩, ⟨⟨rfl, rfl⟩, ⟨rfl, rfl⟩, j0 ?_, j0 ?_, trivial⟩, ⟨⟨⟨rfl, rfl⟩, rfl, trivial⟩, ⟨⟨rfl, rfl⟩, ?_⟩, ⟨g0 ?_, g0 ?_, g0 ?_, g0 ?_, g0 ?_, trivial⟩, trivial⟩⟩) (fun ⟨i, hi⟩ => ?_))))); rotate_right; conv => whnf) | (refine Exists.intro ({i : Nat // i ≤ t.kids.length}) (Exists.intro (fun ⟨i, hi⟩ => x5 Tryd.f37.ntmps [(0, .ptr 900000 0), (3, .ptr 3 0), (66, .dat (.i t.kids.length)), (67, .dat (.i i))] [(900000, .box [.ptr 900000 0, .row 101]), (101, .row 5 .bytes (j4 (x ++ m0 (hdL t.op t.w t.n ++ z1 (t.kids.take i)))) false), (3, .box [.dat (.i t.op), .dat (.i t.w), .dat (.i t.n), .dat (.str t.name), .dat (.seq .terms t.kids)])]) (Exists.intro (fun ⟨i, hi⟩ => t.kids.length - i) (Exists.intro ⟨0, Nat.zero_le _⟩ (And.intro (SubP.sub (σ := [(900000, some 900000), (101, some 64001), (3, some 3)]) ⟨⟨rfl, rfl, rfl⟩, ⟨⟨rfl, rfl⟩, ⟨rfl, rfl⟩, j0 ?_, j0 ?_, trivial⟩, ⟨⟨⟨rfl, rfl⟩, rfl, trivial⟩, ⟨⟨rfl, rfl⟩, ?_⟩, ⟨g0 ?_, g0 ?_, g0 ?_, g0 ?_, g0 ?_, trivial⟩, trivial⟩⟩) (fun ⟨i, hi⟩ => ?_))))); rotate_right; conv => whnf) | (refine Exists.intro (⟨i + 1, ?_⟩ : {i : Nat // i ≤ t.kids.length}) (And.intro ?_ (SubP.sub (σ := [(900000, some 900000), (101, some 79001), (3, some 3)]) ⟨⟨rfl, rfl, rfl⟩, ⟨⟨rfl, rfl⟩, ⟨rfl, rfl⟩, j0 ?_, j0 ?_, trivial⟩, ⟨⟨⟨rfl, rfl⟩, rfl, trivial⟩, ⟨⟨rfl, rfl⟩, ?_⟩, ⟨g0 ?_, g0 ?_, g0 ?_, g0 ?_, g0 ?_, trivial⟩, trivial⟩⟩))) | ((with_reducible first | refine p3 (g := 54) ?_ | show Exists _); refine ⟨_, yU (h0 := ?_) (h1 := ?_) .., rfl, ?_⟩; rotate_right; conv => whnf) | ((with_reducible refine d6 (g := 53) ?_); refine ⟨_, _, g_ws0 (hs := ?_) (hx0 := by assumption) .., zV ?_⟩; rotate_right; conv => whnf) | ((with_reducible refine d6 (g := 53) ?_); refine ⟨_, _, g_wsU (hx := ?_) (hs := ?_) .., zV ?_⟩; rotate_right; conv => whnf) | ((with_reducible first | refine p3 (g := 48) ?_ | show Exists _); refine ⟨_, aN (h1 := ?_) (h2 := ?_) .., rfl, ?_⟩; rotate_right; conv => whnf) | ((with_reducible refine d6 (g := 37) ?_); refine ⟨_, _, ih_w (ih := by assumption) (hk := ?_) (hs := ?_) (hx := ?_) .., zV ?_⟩; rotate_right; conv => whnf) | (intro h; conv => whnf))
  all_goals repeat clear hK K1
  all_goals first | ((with_reducible show _ ≤ maxLen); (try simp only [sB]); have hm : maxLen = 9223372036854775807 := rfl; have b1 := ho.w; have b2 := ho.n; have b3 := ho.nm; rw [hm]; first | (have b4 := lG (op := t.op) omG omG; have c1 : ({ data := #[32] } : ByteArray).size = 1 := rfl; have c2 : ({ data := #[40] } : ByteArray).size = 1 := rfl; omega) | (have c1 : ({ data := #[58] } : ByteArray).size = 1 := rfl; (try have b5 := b3 asmR); omega) | (have c1 : ({ data := #[32] } : ByteArray).size = 1 := rfl; omega)) | exact fw_e asmR asmR asmR | exact fw_c asmR | exact fw_v asmR | exact fw_s asmR | exact fw_1 asmR | exact fw_2 asmR asmR | exact fw_3 asmR asmR | exact fw_4 asmR asmR asmR | ((with_reducible show okT _ = true); rw [V.Term.eta]; exact fJ hk (i := (i : Int).toNat) omG) | ((with_reducible show sizeT _ < _); rw [V.Term.eta]; exact yB asmR) | ((with_reducible show _ ≤ 20000); have q := fw_b hk hop asmR asmR asmR; have c1 : ({ data := #[32] } : ByteArray).size = 1 := rfl; rw [V.Term.eta, sB, sB, yS]; omega) | ((with_reducible show _ ≤ 1048576); (try simp only [sB]); have b1 := ho.w; have b2 := ho.n; have b3 := ho.nm; have c1 : ({ data := #[32] } : ByteArray).size = 1 := rfl; have c2 : ({ data := #[40] } : ByteArray).size = 1 := rfl; have c3 : ({ data := #[41] } : ByteArray).size = 1 := rfl; have c4 : ({ data := #[58] } : ByteArray).size = 1 := rfl; first | omega | (have b4 := lG (op := t.op) omG omG; omega) | (have b5 := b3 asmR; omega) | (have b6 : (m0 (hdL t.op t.w t.n ++ z1 (t.kids.take i))).size ≤ 9600 := dN asmR asmR ho; omega)) | ((with_reducible show Dat.int _ _ = Dat.int _ _); first | exact congrArg (Dat.int .i64) (uD asmR asmR).symm | exact rfl) | ((with_reducible show (_ : Nat) < _); dsimp only; omega) | (have b1 := ho.w0; have b2 := ho.n0; omega) | skip
theorem i_wr : ∀ (m : Nat), m ≤ 241 → IHw m
  | 0, _ => ⟨fun _ _ _ _ _ _ _ h _ => absurd h (Nat.not_lt_zero _)⟩
  | m + 1, hm => ⟨fun op w n nm ks x hk hs hx => by
    have ih := i_wr m omG
    exact i_wU ⟨op, w, n, nm, ks⟩ x ⟨fun op' w' n' nm' ks' x' hk' hs' hx' => ih.call op' w' n' nm' ks' x' hk' omG hx'⟩ hk omG (fmB hk omG) (cD hk) hx⟩
theorem fmtL_ne {t : V.Term} : (m0 (fmtL t)).data.toList ≠ [] := by
  show fmtL t ≠ []
  cases t
  rw [fmtL]
  split
  · simp
  · split <;> simp
theorem i_wf (op w n : Int) (nm : ByteArray) (ks : List V.Term) (hk : okT ⟨op, w, n, nm, ks⟩ = true) (hz : sizeT ⟨op, w, n, nm, ks⟩ ≤ 240) : CallsG Tryd.prog 37 [.ptr 0 0, .agg [.dat (.i op), .dat (.i w), .dat (.i n), .dat (.str nm), .dat (.seq .terms ks)]] [.box [.nilp, .nils]] 1
    (fun res B => res = .tup [] ∧ B = [.box [.ptr 0 0, .row 1], .row 5 .bytes (j4 (m0 (fmtL ⟨op, w, n, nm, ks⟩))) false]) := by
  have h := i_w0 ⟨op, w, n, nm, ks⟩ ByteArray.empty ⟨fun op' w' n' nm' ks' x' hk' hs' hx' => (i_wr 241 (Nat.le_refl _)).call op' w' n' nm' ks' x' hk' omG hx'⟩ hk hz (fmB hk hz) (cD hk) (by show 0 + _ ≤ _; omega) rfl
  rwa [ByteArray.empty_append] at h
noncomputable def iH (t : V.Term) : ByteArray := if d7 t = true then m0 (fmtL t) else ByteArray.empty
theorem fx_n {t : V.Term} (h : d7 t = false) : iH t = ByteArray.empty := if_neg (fun q => by rw [h] at q; cases q)
theorem fx_y {t : V.Term} (h : d7 t = true) : iH t = m0 (fmtL t) := if_pos h
theorem qbf (op w n : Int) (nm : ByteArray) (ks : List V.Term) : CallsV Tryd.prog 16 [.agg [.dat (.i op), .dat (.i w), .dat (.i n), .dat (.str nm), .dat (.seq .terms ks)]] (.dat (.str (iH ⟨op, w, n, nm, ks⟩))) := by
  refine oV Tryd.func16 ⟨?_⟩
  repeat' (first | ((with_reducible refine fun (K1 : KT) hK => ?_); refine stW ⟨?_⟩) | ((with_reducible show K1 _ _); subst hK; conv => whnf) | (with_reducible exact rfl) | refine stD ⟨?_⟩ | refine f4 ⟨?_⟩ | ((with_reducible refine SplS.mk (fun h => ?_) (fun h => ?_)) <;> first | exact g7 | (subst h; conv => whnf) | (conv => whnf)) | ((with_reducible first | refine p3 (g := 15) ?_ | show Exists _); refine ⟨_, uU .., rfl, ?_⟩; rotate_right; conv => whnf) | ((with_reducible refine d6 (g := 37) ?_); refine ⟨_, _, i_wf (hk := ?_) (hz := ?_) .., zV ?_⟩; rotate_right; conv => whnf) | ((with_reducible refine d6 (g := 38) ?_); refine ⟨_, _, g_str (hx := ?_) .., zV ?_⟩; rotate_right; conv => whnf) | (intro h; conv => whnf))
  all_goals repeat clear hK K1
  all_goals first | exact congrArg Dat.str (fx_n asmR) | exact congrArg Dat.str (fx_y asmR) | exact (tC asmR).1 | exact (tC asmR).2 | exact fmtL_ne (t := ⟨op, w, n, nm, ks⟩) asmR | skip
end Vg
