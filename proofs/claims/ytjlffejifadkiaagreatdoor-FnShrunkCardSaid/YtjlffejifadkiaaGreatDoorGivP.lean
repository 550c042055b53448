/- The cursor that draws numbers out of bytes: contracts. Condition: the place in the bytes is not negative. -/
import Derived.Test.YtjlffejifadkiaaGreatDoorBase
import Derived.Test.YtjlffejifadkiaaGreatDoorRet
import Derived.Test.YtjlffejifadkiaaGreatDoorRedQ
import Derived.Test.YtjlffejifadkiaaGreatDoorSess
namespace Vg
open Go Go.Proofs
set_option maxRecDepth 100000
set_option maxHeartbeats 40000000
def vC (a b : Int) : Int := IntKind.i64.wrap (BitVec.ofInt IntKind.i64.bits a &&& BitVec.ofInt IntKind.i64.bits b).toNat
def bP (a b : Int) : Int := IntKind.i64.wrap (BitVec.ofInt IntKind.i64.bits a ^^^ BitVec.ofInt IntKind.i64.bits b).toNat
theorem and_low (a : Int) {m : Nat} (hm : m < 9223372036854775808) : 0 ≤ vC a m ∧ vC a m ≤ m := by
  have h : (BitVec.ofInt IntKind.i64.bits a &&& BitVec.ofInt IntKind.i64.bits (m : Int)).toNat ≤ m := by
    rw [BitVec.toNat_and]
    refine Nat.le_trans Nat.and_le_right ?_
    rw [BitVec.toNat_ofInt]
    have : (IntKind.i64.bits) = 64 := rfl
    rw [this]; omega
  unfold vC
  rw [wrap_id omG omG]; omega
theorem qdo (a : Int) : 0 ≤ vC a 255 ∧ vC a 255 ≤ 255 := and_low a (m := 255) (by decide)
def gE (h : Int) : Int := IntKind.i64.wrap (IntKind.i64.wrap (h * 6364136223846793005) + 1442695040888963407)
def fE (b : List Int) (i : Int) : Int := if i < b.length then i + 1 else i
def fJ (h : Int) : Int := vC (bP ((gE h).fdiv (2 ^ (min (33 : Int).toNat IntKind.i64.bits))) ((gE h).fdiv (2 ^ (min (45 : Int).toNat IntKind.i64.bits)))) 255
def aC (b : List Int) (i h : Int) : Int := if i < b.length then vC (IntKind.i64.wrap (fJ h + IntKind.i64.wrap (b.getD i.toNat 0))) 255 else fJ h
theorem curX_y {b : List Int} {i h : Int} (hi : i < b.length) : aC b i h = vC (IntKind.i64.wrap (fJ h + IntKind.i64.wrap (b.getD i.toNat 0))) 255 := if_pos hi
theorem curX_n {b : List Int} {i h : Int} (hi : ¬ i < b.length) : aC b i h = fJ h := if_neg hi
theorem curI_y {b : List Int} {i : Int} (h0 : 0 ≤ i) (hi : i < b.length) (hl : b.length ≤ maxLen) : fE b i = IntKind.i64.wrap (i + 1) := by
  have hm : maxLen = 9223372036854775807 := rfl
  rw [fE, if_pos hi, wrap_id omG omG]
theorem curI_n {b : List Int} {i : Int} (hi : ¬ i < b.length) : fE b i = i := if_neg hi
theorem qcq {b : List Int} {i : Int} (h : 0 ≤ i) : 0 ≤ fE b i := by unfold fE; split <;> omega
theorem qT (b : List Int) (i h : Int) : 0 ≤ aC b i h ∧ aC b i h ≤ 255 := by
  unfold aC; split
  · exact qdo _
  · exact qdo _
theorem wT {i i' h h' : Int} {s : Dat} (h2 : i = i') (h3 : h = h') : [Blk.box [.dat s, .dat (.i i), .dat (.i h)]] = [Blk.box [.dat s, .dat (.i i'), .dat (.i h')]] := by rw [h2, h3]
theorem gR {x x' : Int} (h : x = x') : AV.dat (.int .i64 x) = AV.dat (.i x') := by rw [h]
theorem qc7 (b : List Int) (i g : Int) (hi : 0 ≤ i) (hl : b.length ≤ maxLen) : CallsG Tryz.prog 62 [.ptr 0 0] [.box [.dat (.seq .bytes b), .dat (.i i), .dat (.i g)]] 1 (fun res B => res = .dat (.i (aC b i g)) ∧ B = [.box [.dat (.seq .bytes b), .dat (.i (fE b i)), .dat (.i (gE g))]]) := by
  refine oG Tryz.func62 ⟨?_⟩
  repeat' (first | ((with_reducible refine fun (K1 : KT) hK => ?_); refine m4 ⟨?_⟩) | ((with_reducible show K1 _ _); subst hK; conv => whnf) | (with_reducible exact rfl) | refine st0 ⟨?_⟩ | ((with_reducible refine SplS.mk (fun h => ?_) (fun h => ?_)) <;> first | exact r0 | (subst h; conv => whnf) | (conv => whnf)) | (with_reducible first | refine bnd2 ?_ ?_ | refine bnd2' ?_ ?_ | refine bndN ?_ ?_) | ((with_reducible refine and_of ?_ ?_); conv => whnf) | (intro h; conv => whnf))
  all_goals repeat clear hK K1
  all_goals first | (with_reducible assumption) | ((with_reducible refine gR ?_); first | (rw [curX_y asmR]; unfold fJ vC bP gE; rfl) | (rw [curX_n asmR]; unfold fJ vC bP gE; rfl)) | ((with_reducible refine wT ?_ ?_) <;> first | (with_reducible exact (curI_y hi (by assumption) hl).symm) | (with_reducible exact (curI_n (by assumption)).symm) | (unfold gE; rfl)) | decide
def zE (b : List Int) (i h n : Int) : Int := if n ≤ 0 then 0 else (aC b i h).tmod n
def uH (b : List Int) (i n : Int) : Int := if n ≤ 0 then i else fE b i
def lL (h n : Int) : Int := if n ≤ 0 then h else gE h
theorem yT {b : List Int} {i n : Int} (h : 0 ≤ i) : 0 ≤ uH b i n := by unfold uH; split; exact h; exact qcq h
theorem belX_r (b : List Int) (i h n : Int) : 0 ≤ zE b i h n ∧ zE b i h n ≤ 255 ∧ (0 < n → zE b i h n < n) := by
  have h1 := qT b i h
  unfold zE; split
  · omega
  · have h2 := Int.tmod_nonneg n h1.1
    have h3 := Int.tmod_lt_of_pos (aC b i h) (show 0 < n by omega)
    refine ⟨h2, ?_, fun _ => h3⟩
    have h4 : (aC b i h).tmod n ≤ aC b i h := by
      rw [Int.tmod_eq_emod_of_nonneg h1.1]
      have e := Int.emod_add_mul_ediv (aC b i h) n
      have q := Int.mul_nonneg (show 0 ≤ n by omega) (Int.ediv_nonneg h1.1 (show 0 ≤ n by omega))
      omega
    omega
theorem belX_y {b : List Int} {i h n : Int} (hn : n ≤ 0) : zE b i h n = 0 := if_pos hn
theorem belX_n {b : List Int} {i h n : Int} (hn : ¬ n ≤ 0) : zE b i h n = (aC b i h).tmod n := if_neg hn
theorem belI_y {b : List Int} {i n : Int} (hn : n ≤ 0) : uH b i n = i := if_pos hn
theorem belI_n {b : List Int} {i n : Int} (hn : ¬ n ≤ 0) : uH b i n = fE b i := if_neg hn
theorem belH_y {h n : Int} (hn : n ≤ 0) : lL h n = h := if_pos hn
theorem belH_n {h n : Int} (hn : ¬ n ≤ 0) : lL h n = gE h := if_neg hn
theorem vT (b : List Int) (i g n : Int) (hi : 0 ≤ i) (hl : b.length ≤ maxLen) : CallsG Tryz.prog 29 [.ptr 0 0, .dat (.i n)] [.box [.dat (.seq .bytes b), .dat (.i i), .dat (.i g)]] 1 (fun res B => res = .dat (.i (zE b i g n)) ∧ B = [.box [.dat (.seq .bytes b), .dat (.i (uH b i n)), .dat (.i (lL g n))]]) := by
  refine oG Tryz.func29 ⟨?_⟩
  repeat' (first | ((with_reducible refine fun (K1 : KT) hK => ?_); refine m4 ⟨?_⟩) | ((with_reducible show K1 _ _); subst hK; conv => whnf) | (with_reducible exact rfl) | refine st0 ⟨?_⟩ | ((with_reducible refine SplS.mk (fun h => ?_) (fun h => ?_)) <;> first | exact r0 | (subst h; conv => whnf) | (conv => whnf)) | (with_reducible first | refine bnd2 ?_ ?_ | refine bnd2' ?_ ?_ | refine bndN ?_ ?_) | ((with_reducible refine and_of ?_ ?_); conv => whnf) | ((with_reducible refine a6 (g := 62) ?_); refine ⟨_, _, qc7 (hi := ?_) (hl := ?_) .., zV ?_⟩; rotate_right; conv => whnf) | (intro h; conv => whnf))
  all_goals repeat clear hK K1
  all_goals first | (with_reducible assumption) | exact gR (belX_y (by assumption)).symm | exact gR (belX_n (by assumption)).symm | exact wT (belI_y (by assumption)).symm (belH_y (by assumption)).symm | exact wT (belI_n (by assumption)).symm (belH_n (by assumption)).symm | omega | skip
theorem qin (b : List Int) (i g n : Int) (hi : 0 ≤ i) (hl : b.length ≤ maxLen) : CallsG Tryz.prog 28 [.ptr 0 0, .dat (.i n)] [.box [.dat (.seq .bytes b), .dat (.i i), .dat (.i g)]] 1 (fun res B => res = .dat (.bool (decide (zE b i g n = 0))) ∧ B = [.box [.dat (.seq .bytes b), .dat (.i (uH b i n)), .dat (.i (lL g n))]]) := by
  refine oG Tryz.func28 ⟨?_⟩
  repeat' (first | ((with_reducible refine fun (K1 : KT) hK => ?_); refine m4 ⟨?_⟩) | ((with_reducible show K1 _ _); subst hK; conv => whnf) | (with_reducible exact rfl) | ((with_reducible refine SplS.mk (fun h => ?_) (fun h => ?_)) <;> first | exact r0 | (subst h; conv => whnf) | (conv => whnf)) | (with_reducible first | refine bnd2 ?_ ?_ | refine bnd2' ?_ ?_ | refine bndN ?_ ?_) | ((with_reducible refine and_of ?_ ?_); conv => whnf) | ((with_reducible refine a6 (g := 29) ?_); refine ⟨_, _, vT (hi := ?_) (hl := ?_) .., zV ?_⟩; rotate_right; conv => whnf) | (intro h; conv => whnf))
  all_goals repeat clear hK K1
  all_goals first | (with_reducible assumption) | rfl | omega | skip
def hash0 (b : List Int) : Int := IntKind.i64.wrap (55127 + b.length)
def wN (b : List Int) : Nat → Int
  | 0 => hash0 b
  | k + 1 => vC (IntKind.i64.wrap (IntKind.i64.wrap (IntKind.i64.wrap (wN b k * 131) + IntKind.i64.wrap (b.getD k 0)) + 7)) 1073741823
def kD (b : List Int) : Nat := min b.length 4000
theorem qhv {b : List Int} {k : Nat} (hk : k ≤ kD b) (h : ¬ (k : Int) < b.length) : k = kD b := by unfold kD at *; omega
theorem qhu {b : List Int} {k : Nat} (hk : k ≤ kD b) (h : ¬ (k : Int) < 4000) : k = kD b := by unfold kD at *; omega
theorem hash_lt {b : List Int} {k : Nat} (h1 : (k : Int) < b.length) (h2 : (k : Int) < 4000) : k + 1 ≤ kD b := by unfold kD; omega
theorem qio (b : List Int) (_hl : b.length ≤ maxLen) : CallsF Tryz.prog 60 [.dat (.seq .bytes b)] false (fun res B => res = .ptr 0 0 ∧ B = [.box [.dat (.seq .bytes b), .dat (.i 0), .dat (.i (wN b (kD b)))]]) := by
  refine oF Tryz.func60 ⟨?_⟩
  repeat' (first | ((with_reducible refine fun (K1 : KT) hK => ?_); refine m4 ⟨?_⟩) | ((with_reducible show K1 _ _); subst hK; conv => whnf) | (with_reducible exact rfl) | refine st0 ⟨?_⟩ | ((with_reducible refine SplS.mk (fun h => ?_) (fun h => ?_)) <;> first | exact r0 | (subst h; conv => whnf) | (conv => whnf)) | refine f1 ⟨?_⟩ ⟨?_⟩ | (refine Exists.intro ({k : Nat // k ≤ kD b}) (Exists.intro (fun ⟨k, hk⟩ => r4 Tryz.f60.ntmps [(0, .dat (.seq .bytes b)), (3, .dat (.i (wN b k))), (4, .dat (.i k))] []) (Exists.intro (fun ⟨k, hk⟩ => b.length - k) (Exists.intro ⟨0, Nat.zero_le _⟩ (And.intro (SubP.sub (σ := []) ⟨⟨rfl, rfl, rfl⟩, ⟨o0 ?_, o0 ?_, o0 ?_, trivial⟩, trivial⟩) (fun ⟨k, hk⟩ => ?_))))); rotate_right; conv => whnf) | (refine Exists.intro ⟨k + 1, ?_⟩ (And.intro ?_ (SubP.sub (σ := []) ⟨⟨rfl, rfl, rfl⟩, ⟨o0 ?_, o0 ?_, o0 ?_, trivial⟩, trivial⟩))) | (intro h; conv => whnf))
  all_goals repeat clear hK K1
  all_goals first | (with_reducible assumption) | (with_reducible rfl) | exact hash_lt (by assumption) (by assumption) | omega | (dsimp only; omega) | exact congrArg (Dat.int .i64) (wrap_id omG omG).symm | exact (rfl : Dat.i ((0 : Nat) : Int) = Dat.int .i64 0) | (have e := qhv hk (by assumption); rw [← e]; rfl) | (have e := qhu hk (by assumption); rw [← e]; rfl) | rfl | skip
def atI (b : List Int) (n : Int) : Int := if (b.length : Int) < n then b.length else n
def atH (b : List Int) (n : Int) : Int := vC (IntKind.i64.wrap (IntKind.i64.wrap (IntKind.i64.wrap (wN b (kD b) * 31) + IntKind.i64.wrap (n * 7919)) + 1)) 1073741823
theorem oO {b : List Int} {n : Int} (h : 0 ≤ n) : 0 ≤ atI b n := by unfold atI; split <;> omega
theorem uT (b : List Int) (n : Int) (hl : b.length ≤ maxLen) : CallsF Tryz.prog 26 [.dat (.seq .bytes b), .dat (.i n)] false (fun res B => res = .ptr 0 0 ∧ B = [.box [.dat (.seq .bytes b), .dat (.i (atI b n)), .dat (.i (atH b n))]]) := by
  refine oF Tryz.func26 ⟨?_⟩
  repeat' (first | ((with_reducible refine fun (K1 : KT) hK => ?_); refine m4 ⟨?_⟩) | ((with_reducible show K1 _ _); subst hK; conv => whnf) | (with_reducible exact rfl) | refine st0 ⟨?_⟩ | ((with_reducible refine SplS.mk (fun h => ?_) (fun h => ?_)) <;> first | exact r0 | (subst h; conv => whnf) | (conv => whnf)) | refine f1 ⟨?_⟩ ⟨?_⟩ | ((with_reducible refine o8 (g := 60) ?_); refine ⟨_, _, qio (_hl := ?_) .., rfl, zV ?_⟩; rotate_right; conv => whnf) | (intro h; conv => whnf))
  all_goals repeat clear hK K1
  all_goals first | (with_reducible assumption) | rfl | omega | skip
def iH (b : List Int) (n : Int) : Int := IntKind.i64.wrap (IntKind.i64.wrap (256 * aC b (atI b n) (atH b n)) + aC b (fE b (atI b n)) (gE (atH b n)))
theorem numX_r (b : List Int) (n : Int) : 0 ≤ iH b n ∧ iH b n ≤ 65535 := by
  have h1 := qT b (atI b n) (atH b n)
  have h2 := qT b (fE b (atI b n)) (gE (atH b n))
  unfold iH
  rw [wrap_id (n := 256 * _) omG omG, wrap_id omG omG]; omega
theorem qiq (b : List Int) (n : Int) (hn : 0 ≤ n) (hl : b.length ≤ maxLen) : CallsV Tryz.prog 31 [.dat (.seq .bytes b), .dat (.i n)] (.dat (.i (iH b n))) := by
  refine oV Tryz.func31 ⟨?_⟩
  repeat' (first | ((with_reducible refine fun (K1 : KT) hK => ?_); refine m4 ⟨?_⟩) | ((with_reducible show K1 _ _); subst hK; conv => whnf) | (with_reducible exact rfl) | refine st0 ⟨?_⟩ | ((with_reducible refine SplS.mk (fun h => ?_) (fun h => ?_)) <;> first | exact r0 | (subst h; conv => whnf) | (conv => whnf)) | ((with_reducible refine o8 (g := 26) ?_); refine ⟨_, _, uT (hl := ?_) .., rfl, zV ?_⟩; rotate_right; conv => whnf) | ((with_reducible refine a6 (g := 62) ?_); refine ⟨_, _, qc7 (hi := ?_) (hl := ?_) .., zV ?_⟩; rotate_right; conv => whnf) | (intro h; conv => whnf))
  all_goals repeat clear hK K1
  all_goals first | (with_reducible assumption) | rfl | exact oO hn | exact qcq (oO hn) | omega | skip
def g8 (b : List Int) (n lo hi : Int) : Int := lo + (iH b n).tmod (hi - lo + 1)
theorem lW (b : List Int) (n : Int) {lo hi : Int} (h : lo ≤ hi) : lo ≤ g8 b n lo hi ∧ g8 b n lo hi ≤ hi := by
  have h1 := numX_r b n
  have h2 := Int.tmod_nonneg (hi - lo + 1) h1.1
  have h3 := Int.tmod_lt_of_pos (iH b n) (show 0 < hi - lo + 1 by omega)
  unfold g8; omega
theorem size_e {b : List Int} {n lo hi : Int} (h1 : 0 ≤ lo) (h2 : lo ≤ hi) (h3 : hi ≤ 1000000) : IntKind.i64.wrap (lo + (iH b n).tmod (IntKind.i64.wrap (IntKind.i64.wrap (hi - lo) + 1))) = g8 b n lo hi := by
  have h := lW b n h2
  unfold g8 at h ⊢
  rw [wrap_id (n := hi - lo) omG omG, wrap_id (n := hi - lo + 1) omG omG, wrap_id omG omG]
theorem kW {lo hi : Int} (h1 : 0 ≤ lo) (h2 : lo ≤ hi) (h3 : hi ≤ 1000000) : IntKind.i64.wrap (IntKind.i64.wrap (hi - lo) + 1) ≠ 0 := by
  rw [wrap_id (n := hi - lo) omG omG, wrap_id (n := hi - lo + 1) omG omG]; omega
theorem qc8 (b : List Int) (n lo hi : Int) (hn : 0 ≤ n) (h1 : 0 ≤ lo) (h2 : lo ≤ hi) (h3 : hi ≤ 1000000) (hl : b.length ≤ maxLen) : CallsV Tryz.prog 8 [.dat (.seq .bytes b), .dat (.i n), .dat (.i lo), .dat (.i hi)] (.dat (.i (g8 b n lo hi))) := by
  refine oV Tryz.func8 ⟨?_⟩
  repeat' (first | ((with_reducible refine fun (K1 : KT) hK => ?_); refine m4 ⟨?_⟩) | ((with_reducible show K1 _ _); subst hK; conv => whnf) | (with_reducible exact rfl) | refine st0 ⟨?_⟩ | ((with_reducible refine SplS.mk (fun h => ?_) (fun h => ?_)) <;> first | exact r0 | (subst h; conv => whnf) | (conv => whnf)) | refine f1 ⟨?_⟩ ⟨?_⟩ | ((with_reducible first | refine n0 (g := 31) ?_ | show Exists _); refine ⟨_, qiq (hn := ?_) (hl := ?_) .., rfl, ?_⟩; rotate_right; conv => whnf) | (intro h; conv => whnf))
  all_goals repeat clear hK K1
  all_goals first | (with_reducible assumption) | exact congrArg (Dat.int .i64) (size_e h1 h2 h3).symm | exact kW h1 h2 h3 | exact kW h1 h2 h3 asmR | omega | skip
theorem xN (b : List Int) (i g n : Int) (hi : 0 ≤ i) (hl : b.length ≤ maxLen) : CallsG Tryz.prog 29 [.ptr 0 0, .dat (.i n)] [.box [.dat (.seq .bytes b), .dat (.i i), .dat (.i g)]] 1
    (fun res B => ∃ x i' g' : Int, res = .dat (.i x) ∧ B = [.box [.dat (.seq .bytes b), .dat (.i i'), .dat (.i g')]] ∧ (0 ≤ x ∧ x ≤ 255 ∧ (0 < n → x < n)) ∧ 0 ≤ i') :=
  (vT b i g n hi hl).mono fun _ _ ⟨h1, h2⟩ => ⟨_, _, _, h1, h2, belX_r .., yT hi⟩
theorem qS (b : List Int) (i g n : Int) (hi : 0 ≤ i) (hl : b.length ≤ maxLen) : CallsG Tryz.prog 28 [.ptr 0 0, .dat (.i n)] [.box [.dat (.seq .bytes b), .dat (.i i), .dat (.i g)]] 1
    (fun res B => ∃ (x : Bool) (i' g' : Int), res = .dat (.bool x) ∧ B = [.box [.dat (.seq .bytes b), .dat (.i i'), .dat (.i g')]] ∧ 0 ≤ i') :=
  (qin b i g n hi hl).mono fun _ _ ⟨h1, h2⟩ => ⟨_, _, _, h1, h2, yT hi⟩
theorem prog_c {w mem inn : Int} {c : List V.Ins} (h : y4 ⟨w, mem, inn, c⟩ = true) : c.length ≤ 40 := by
  simp [y4, inP] at h
  omega
theorem qh1 {l : List Int} {x : Int} (h0 : 0 ≤ x) (h : x < l.length) : l.getD x.toNat K.ints.dflt ∈ l := by
  have h' : x.toNat < l.length := by omega
  rw [List.getD_eq_getElem?_getD, List.getElem?_eq_getElem h']
  exact List.getElem_mem h'
theorem qhy (b : List Int) (i g : Int) (l : List Int) (hi : 0 ≤ i) (hl : b.length ≤ maxLen) (h1 : 0 < l.length) : CallsG Tryz.prog 99 [.ptr 0 0, .row 1] [.box [.dat (.seq .bytes b), .dat (.i i), .dat (.i g)], .row 3 .ints l false] 2 (fun res B => ∃ x i' g' : Int, res = .dat (.i x) ∧ B = [.box [.dat (.seq .bytes b), .dat (.i i'), .dat (.i g')], .row 3 .ints l false] ∧ x ∈ l ∧ 0 ≤ i') := by
  refine oG Tryz.func99 ⟨?_⟩
  repeat' (first | ((with_reducible refine fun (K1 : KT) hK => ?_); refine m4 ⟨?_⟩) | ((with_reducible show K1 _ _); subst hK; conv => whnf) | (with_reducible exact rfl) | ((with_reducible refine SplS.mk (fun h => ?_) (fun h => ?_)) <;> first | exact r0 | (subst h; conv => whnf) | (conv => whnf)) | (with_reducible first | refine bnd2 ?_ ?_ | refine bnd2' ?_ ?_ | refine bndN ?_ ?_) | ((with_reducible refine and_of ?_ ?_); conv => whnf) | ((with_reducible refine a6 (g := 29) ?_); refine ⟨_, _, xN (hi := ?_) (hl := asmR) .., fun res B hRB => ?_⟩; rotate_right; obtain ⟨x, i', g', rfl, rfl, hx, hi'⟩ := hRB; conv => whnf) | (intro h; conv => whnf))
  all_goals repeat clear hK K1
  all_goals first | (with_reducible assumption) | exact ⟨_, _, _, rfl, rfl, qh1 omG omG, by assumption⟩ | omega | skip
def givI (b : List Int) (n : Int) : Nat → Int
  | 0 => atI b n
  | k + 1 => uH b (givI b n k) 256
def givH (b : List Int) (n : Int) : Nat → Int
  | 0 => atH b n
  | k + 1 => lL (givH b n k) 256
def jA (w : Int) (b : List Int) (n : Int) : Nat → List Int
  | 0 => []
  | k + 1 => jA w b n k ++ [z7 w (zE b (givI b n k) (givH b n k) 256)]
theorem qbi {b : List Int} {n : Int} (h : 0 ≤ n) : ∀ k, 0 ≤ givI b n k
  | 0 => oO h
  | k + 1 => yT (qbi h k)
theorem yN (w : Int) (b : List Int) (n : Int) : ∀ k, (jA w b n k).length = k
  | 0 => rfl
  | k + 1 => by rw [jA, List.length_append, yN w b n k]; rfl
theorem qbh {w : Int} (b : List Int) (n : Int) (hw : inP w 1 16 = true) : ∀ k, ∀ x ∈ jA w b n k, wordP w x = true
  | 0 => fun x hx => by simp [jA] at hx
  | k + 1 => fun x hx => by
    rw [jA, List.mem_append] at hx
    rcases hx with hx | hx
    · exact qbh b n hw k x hx
    · rw [List.mem_singleton] at hx; subst hx; exact wordOf_word _ hw
theorem oQ {p : V.Prog} (h : y4 p = true) : 0 ≤ p.inn ∧ p.inn ≤ 3 ∧ inP p.w 1 16 = true := by
  simp [y4, inP] at h ⊢
  omega
theorem bE {p : V.Prog} (b : List Int) (n : Int) (h : y4 p = true) : n6 p (jA p.w b n p.inn.toNat) = true := by
  obtain ⟨h1, h2, h3⟩ := oQ h
  simp only [n6, Bool.and_eq_true, List.all_eq_true]
  refine ⟨h, qbh b n h3 _, ?_⟩
  rw [yN]; simp; omega
theorem qir (b : List Int) (n w mem inn : Int) (c : List V.Ins) (hn : 0 ≤ n) (hl : b.length ≤ maxLen) (h1 : inn ≤ 1000) : CallsF Tryz.prog 7 [.dat (.seq .bytes b), .dat (.i n), .agg [.dat (.i w), .dat (.i mem), .dat (.i inn), .dat (.seq .inss c)]] true (fun res B => res = .row 0 ∧ B = [.row 3 .ints (jA w b n inn.toNat) false]) := by
  refine oF Tryz.func7 ⟨?_⟩
  repeat' (first | ((with_reducible refine fun (K1 : KT) hK => ?_); refine m4 ⟨?_⟩) | ((with_reducible show K1 _ _); subst hK; conv => whnf) | (with_reducible exact rfl) | refine st0 ⟨?_⟩ | ((with_reducible refine SplS.mk (fun h => ?_) (fun h => ?_)) <;> first | exact r0 | (subst h; conv => whnf) | (conv => whnf)) | refine f1 ⟨?_⟩ ⟨?_⟩ | (refine Exists.intro ({k : Nat // k ≤ inn.toNat}) (Exists.intro (fun ⟨k, hk⟩ => r4 Tryz.f7.ntmps [(5, .ptr 5 0), (7, .ptr 7 0), (8, .row 108), (9, .dat (.i k))] [(5, .box [.dat (.i w), .dat (.i mem), .dat (.i inn), .dat (.seq .inss c)]), (7, .box [.dat (.seq .bytes b), .dat (.i (givI b n k)), .dat (.i (givH b n k))]), (108, .row 3 .ints (jA w b n k) false)]) (Exists.intro (fun ⟨k, hk⟩ => inn.toNat - k) (Exists.intro ⟨0, Nat.zero_le _⟩ (And.intro (SubP.sub (σ := [(5, some 5), (7, some 13000), (108, some 13)]) ⟨⟨rfl, rfl, rfl⟩, ⟨⟨rfl, rfl⟩, ⟨rfl, rfl⟩, rfl, o0 ?_, trivial⟩, ⟨⟨j0 ?_, j0 ?_, j0 ?_, j0 ?_, trivial⟩, ⟨j0 ?_, j0 ?_, j0 ?_, trivial⟩, ⟨⟨rfl, rfl⟩, ?_⟩, trivial⟩⟩) (fun ⟨k, hk⟩ => ?_))))); rotate_right; conv => whnf) | (refine Exists.intro ⟨k + 1, ?_⟩ (And.intro ?_ (SubP.sub (σ := [(5, some 5), (7, some 7), (108, some 27)]) ⟨⟨rfl, rfl, rfl⟩, ⟨⟨rfl, rfl⟩, ⟨rfl, rfl⟩, rfl, o0 ?_, trivial⟩, ⟨⟨j0 ?_, j0 ?_, j0 ?_, j0 ?_, trivial⟩, ⟨j0 ?_, j0 ?_, j0 ?_, trivial⟩, ⟨⟨rfl, rfl⟩, ?_⟩, trivial⟩⟩))) | ((with_reducible refine o8 (g := 26) ?_); refine ⟨_, _, uT (hl := ?_) .., rfl, zV ?_⟩; rotate_right; conv => whnf) | ((with_reducible first | refine n0 (g := 30) ?_ | show Exists _); refine ⟨_, cI .., rfl, ?_⟩; rotate_right; conv => whnf) | ((with_reducible refine a6 (g := 29) ?_); refine ⟨_, _, vT (hi := ?_) (hl := ?_) .., zV ?_⟩; rotate_right; conv => whnf) | (intro h; conv => whnf))
  all_goals repeat clear hK K1
  all_goals first | (with_reducible assumption) | (with_reducible rfl) | exact qbi hn k | omega | (dsimp only; omega) | (rw [yN]; have hm : maxLen = 9223372036854775807 := rfl; simp; omega) | (show ((jA w b n k).length + _) * 8 ≤ _; rw [yN]; simp; omega) | exact congrArg (Dat.int .i64) (wrap_id omG omG).symm | exact zJ (by rw [show k = inn.toNat from by omega]) | rfl | skip
theorem qV (b : List Int) (n w mem inn : Int) (c : List V.Ins) (hn : 0 ≤ n) (hl : b.length ≤ maxLen) (h1 : inn ≤ 1000) : CallsV Tryz.prog 7 [.dat (.seq .bytes b), .dat (.i n), .agg [.dat (.i w), .dat (.i mem), .dat (.i inn), .dat (.seq .inss c)]] (.dat (.seq .ints (jA w b n inn.toNat))) :=
  (qir b n w mem inn c hn hl h1).toV fun res B ⟨h1, h2⟩ => by subst h1 h2; exact rfl
theorem mk1 {a w n size : Int} (ha : 0 ≤ a ∧ a ≤ 255 ∧ ((0 : Int) < 4 → a < 4)) (hw : inP w 1 16 = true) : d5 ⟨1, a, z7 w n, 0⟩ w size = true := by
  simp [d5, b9, inP, wordOf_word n hw]; omega
theorem mk2 {op a b w size : Int} (ho : op = 2 ∨ op = 7 ∨ op = 8) (ha : 0 ≤ a ∧ a ≤ 255 ∧ ((0 : Int) < 4 → a < 4)) (hb : 0 ≤ b ∧ b ≤ 255 ∧ ((0 : Int) < 4 → b < 4)) : d5 ⟨op, a, b, 0⟩ w size = true := by
  rcases ho with rfl | rfl | rfl <;> simp [d5, b9, inP] <;> omega
theorem mk3 {a b w size x : Int} (ha : 0 ≤ a ∧ a ≤ 255 ∧ ((0 : Int) < 4 → a < 4)) (hb : 0 ≤ b ∧ b ≤ 255 ∧ ((0 : Int) < 4 → b < 4)) (hx : x ∈ ([3, 4, 5, 6, 7, 8, 9, 10, 11, 12, 13, 14, 15, 16] : List Int)) : d5 ⟨3, a, b, x⟩ w size = true := by
  have hx' : 3 ≤ x ∧ x ≤ 16 := by simp at hx; omega
  simp [d5, b9, inP]; omega
theorem mk4 {op a w size : Int} (ho : op = 4 ∨ op = 5 ∨ op = 6 ∨ op = 13) (ha : 0 ≤ a ∧ a ≤ 255 ∧ ((0 : Int) < 4 → a < 4)) : d5 ⟨op, a, 0, 0⟩ w size = true := by
  rcases ho with rfl | rfl | rfl | rfl <;> simp [d5, b9, inP] <;> omega
theorem mk9 {op x w size : Int} (ho : op = 9 ∨ op = 11) (hx : 0 ≤ x ∧ x ≤ size) : d5 ⟨op, 0, x, 0⟩ w size = true := by
  rcases ho with rfl | rfl <;> simp [d5, inP] <;> omega
theorem mk10 {a x w size : Int} (ha : 0 ≤ a ∧ a ≤ 255 ∧ ((0 : Int) < 4 → a < 4)) (hx : 0 ≤ x ∧ x ≤ size) : d5 ⟨10, a, x, 0⟩ w size = true := by
  simp [d5, b9, inP]; omega
theorem zX {size x : Int} (hs : 0 ≤ size ∧ size ≤ 100) (hx : 0 ≤ x ∧ x ≤ 255 ∧ (0 < IntKind.i64.wrap (size + 1) → x < IntKind.i64.wrap (size + 1))) : 0 ≤ x ∧ x ≤ size := by
  rw [wrap_id (n := size + 1) omG omG] at hx; omega
theorem qQ {size at' x : Int} (hs : 0 ≤ size ∧ size ≤ 100) (h0 : 0 ≤ at') (h1 : at' < size) (hx : 0 ≤ x ∧ x ≤ 255 ∧ (0 < IntKind.i64.wrap (size - at') → x < IntKind.i64.wrap (size - at'))) : 0 ≤ IntKind.i64.wrap (IntKind.i64.wrap (at' + 1) + x) ∧ IntKind.i64.wrap (IntKind.i64.wrap (at' + 1) + x) ≤ size := by
  rw [wrap_id (n := size - at') omG omG] at hx
  rw [wrap_id (n := at' + 1) omG omG, wrap_id omG omG]; omega
theorem qhw (b : List Int) (i g w size at' : Int) (hi : 0 ≤ i) (hl : b.length ≤ maxLen) (hw : inP w 1 16 = true) (hs : 0 ≤ size ∧ size ≤ 100) (h0 : 0 ≤ at') (h1 : at' < size) : CallsG Tryz.prog 61 [.ptr 0 0, .dat (.i w), .dat (.i size), .dat (.i at')] [.box [.dat (.seq .bytes b), .dat (.i i), .dat (.i g)]] 1 (fun res B => ∃ op a c d i' g' : Int, res = .agg [.dat (.i op), .dat (.i a), .dat (.i c), .dat (.i d)] ∧ B = [.box [.dat (.seq .bytes b), .dat (.i i'), .dat (.i g')]] ∧ d5 ⟨op, a, c, d⟩ w size = true ∧ 0 ≤ i') := by
  refine oG Tryz.func61 ⟨?_⟩
  repeat' (first | ((with_reducible refine fun (K1 : KT) hK => ?_); refine m4 ⟨?_⟩) | ((with_reducible show K1 _ _); subst hK; conv => whnf) | (with_reducible exact rfl) | refine st0 ⟨?_⟩ | ((with_reducible refine SplS.mk (fun h => ?_) (fun h => ?_)) <;> first | exact r0 | (subst h; conv => whnf) | (conv => whnf)) | ((with_reducible refine a6 (g := 29) ?_); refine ⟨_, _, xN (hi := ?_) (hl := asmR) .., fun res B hRB => ?_⟩; rotate_right; obtain ⟨x, i', g', rfl, rfl, hx, hi'⟩ := hRB; conv => whnf) | ((with_reducible refine a6 (g := 28) ?_); refine ⟨_, _, qS (hi := ?_) (hl := asmR) .., fun res B hRB => ?_⟩; rotate_right; obtain ⟨x, i', g', rfl, rfl, hi'⟩ := hRB; conv => whnf) | ((with_reducible first | refine n0 (g := 30) ?_ | show Exists _); refine ⟨_, cI .., rfl, ?_⟩; rotate_right; conv => whnf) | ((with_reducible refine a6 (g := 99) ?_); refine ⟨_, _, qhy (hi := ?_) (hl := asmR) (h1 := ?_) .., fun res B hRB => ?_⟩; rotate_right; obtain ⟨x, i', g', rfl, rfl, hm, hi'⟩ := hRB; conv => whnf) | (intro h; conv => whnf))
  all_goals repeat clear hK K1
  all_goals first | (with_reducible assumption) | (refine ⟨_, _, _, _, _, _, rfl, rfl, ?_, by with_reducible assumption⟩; first | exact mk1 asmR hw | exact mk2 (by decide) asmR asmR | exact mk3 asmR asmR asmR | exact mk4 (by decide) asmR | exact mk9 (by decide) (zX hs asmR) | exact mk9 (by decide) (qQ hs h0 h1 asmR) | exact mk10 asmR (zX hs asmR) | exact mk10 asmR (qQ hs h0 h1 asmR) | rfl) | exact Nat.succ_pos _ | decide | omega | skip
structure DrawI (w mem inn size i : Int) (code : List V.Ins) : Prop where
  hw : 2 ≤ w ∧ w ≤ 3
  hm : 1 ≤ mem ∧ mem ≤ 3
  hn : 0 ≤ inn ∧ inn ≤ 2
  hs : inn + 2 ≤ size ∧ size ≤ inn + 14
  hi : 0 ≤ i
  hc : (code.length : Int) ≤ size
  ha : ∀ x ∈ code, d5 x w size = true
theorem drawI_w {w mem inn size i : Int} {code : List V.Ins} (h : DrawI w mem inn size i code) : inP w 1 16 = true := by
  have := h.hw; simp [inP]; omega
theorem drawI_0 {x1 x2 x3 x4 i : Int} (h1 : 0 ≤ x1 ∧ x1 ≤ 255 ∧ ((0 : Int) < 2 → x1 < 2)) (h2 : 0 ≤ x2 ∧ x2 ≤ 255 ∧ ((0 : Int) < 3 → x2 < 3)) (h3 : 0 ≤ x3 ∧ x3 ≤ 255 ∧ ((0 : Int) < 3 → x3 < 3)) (h4 : 0 ≤ x4 ∧ x4 ≤ 255 ∧ ((0 : Int) < 10 → x4 < 10)) (hi : 0 ≤ i) :
    DrawI (IntKind.i64.wrap (2 + x1)) (IntKind.i64.wrap (1 + x2)) x3 (IntKind.i64.wrap (IntKind.i64.wrap (x3 + 2) + x4)) i [] := by
  rw [wrap_id (n := 2 + x1) omG omG, wrap_id (n := 1 + x2) omG omG, wrap_id (n := x3 + 2) omG omG, wrap_id (n := x3 + 2 + x4) omG omG]
  exact ⟨by omega, by omega, by omega, by omega, hi, by simp; omega, fun x hx => by simp at hx⟩
theorem mT {w mem inn size i i' : Int} {code : List V.Ins} {y : V.Ins} (h : DrawI w mem inn size i code) (hk : (code.length : Int) < size) (hy : d5 y w size = true) (hi : 0 ≤ i') : DrawI w mem inn size i' (code ++ [y]) :=
  ⟨h.hw, h.hm, h.hn, h.hs, hi, by simp; omega, fun x hx => by
    rcases List.mem_append.1 hx with hx | hx
    · exact h.ha x hx
    · rw [List.mem_singleton] at hx; subst hx; exact hy⟩
theorem qci {w mem inn size i : Int} {code : List V.Ins} (h : DrawI w mem inn size i code) (hk : (code.length : Int) < inn) : d5 ⟨5, code.length, 0, 0⟩ w size = true := by
  have := h.hn; simp [d5, b9, inP]; omega
theorem qif {w mem inn size i : Int} {code : List V.Ins} (h : DrawI w mem inn size i code) (hk : ¬ (code.length : Int) < size) : y4 ⟨w, mem, inn, code⟩ = true := by
  obtain ⟨hw, hm, hn, hs, _, hc, ha⟩ := h
  have e : (code.length : Int) = size := by omega
  simp only [y4, Bool.and_eq_true, inP, decide_eq_true_eq, wordP, List.all_eq_true]
  refine ⟨⟨⟨⟨⟨⟨by omega, by omega⟩, ⟨by omega, by omega⟩⟩, ⟨⟨by omega, by omega⟩, by omega, ?_⟩⟩, by omega, by omega⟩, by omega, by omega⟩, fun x hx => by rw [e]; exact ha x hx⟩
  have hw' : w = 2 ∨ w = 3 := by omega
  rcases hw' with rfl | rfl
  · show mem ≤ 3; omega
  · show mem ≤ 7; omega
theorem qef {code : List V.Ins} {y : V.Ins} {size : Int} (hk : (code.length : Int) < size) (hs : size ≤ 100) : Dat.int .i64 (IntKind.i64.wrap ((code.length : Int) + 1)) = Dat.i ((code ++ [y]).length : Nat) := by
  rw [wrap_id omG omG]; simp
theorem drawI_s {w mem inn size i : Int} {code : List V.Ins} (h : DrawI w mem inn size i code) : size ≤ 100 := by
  have := h.hs; have := h.hn; omega
theorem qhx (b : List Int) (i g : Int) (hi : 0 ≤ i) (hl : b.length ≤ maxLen) : CallsG Tryz.prog 27 [.ptr 0 0, .dat (.i 10)] [.box [.dat (.seq .bytes b), .dat (.i i), .dat (.i g)]] 1 (fun res B => ∃ (w mem inn i' g' : Int) (code : List V.Ins), res = .agg [.dat (.i w), .dat (.i mem), .dat (.i inn), .row 1] ∧ B = [.box [.dat (.seq .bytes b), .dat (.i i'), .dat (.i g')], .row 66 .inss code false] ∧ y4 ⟨w, mem, inn, code⟩ = true ∧ 0 ≤ i') := by
  refine oG Tryz.func27 ⟨?_⟩
  repeat' (first | ((with_reducible refine Alt.r ?_); conv => whnf) | ((with_reducible refine fun (K1 : KT) hK => ?_); refine m4 ⟨?_⟩) | ((with_reducible show K1 _ _); subst hK; conv => whnf) | (with_reducible exact rfl) | refine st0 ⟨?_⟩ | ((with_reducible refine SplS.mk (fun h => ?_) (fun h => ?_)) <;> first | exact r0 | (subst h; conv => whnf) | (conv => whnf)) | (with_reducible first | refine bnd2 ?_ ?_ | refine bnd2' ?_ ?_ | refine bndN ?_ ?_) | ((with_reducible refine and_of ?_ ?_); conv => whnf) | (refine Exists.intro ({x : (Int × Int × Int) × (Int × Int × Int) × List V.Ins // DrawI x.1.1 x.1.2.1 x.1.2.2 x.2.1.1 x.2.1.2.1 x.2.2}) (Exists.intro (fun ⟨⟨⟨w, mem, inn⟩, ⟨size, i, g⟩, code⟩, hI⟩ => r4 Tryz.f27.ntmps [(0, .ptr 900000 0), (4, .ptr 4 0), (5, .ptr 5 0), (6, .dat (.i size)), (7, .dat (.i code.length))] [(900000, .box [.dat (.seq .bytes b), .dat (.i i), .dat (.i g)]), (4, .box [.cell, .cell, .cell, .cell]), (5, .box [.dat (.i w), .dat (.i mem), .dat (.i inn), .row 107]), (107, .row 66 .inss code false)]) (Exists.intro (fun ⟨⟨⟨w, mem, inn⟩, ⟨size, i, g⟩, code⟩, hI⟩ => (size.toNat - code.length)) (Exists.intro ⟨⟨⟨?_, ?_, ?_⟩, ⟨?_, ?_, ?_⟩, []⟩, ?_⟩ (And.intro (SubP.sub (σ := [(900000, some 900000), (4, some 4), (5, some 5), (107, none)]) ⟨⟨rfl, rfl, rfl⟩, ⟨⟨rfl, rfl⟩, ⟨rfl, rfl⟩, ⟨rfl, rfl⟩, o0 ?_, o0 ?_, trivial⟩, ⟨⟨j0 ?_, j0 ?_, j0 ?_, trivial⟩, ⟨rfl, rfl, rfl, rfl, trivial⟩, ⟨j0 ?_, j0 ?_, j0 ?_, rfl, trivial⟩, ?_, trivial⟩⟩) (fun ⟨⟨⟨w, mem, inn⟩, ⟨size, i, g⟩, code⟩, hI⟩ => ?_))))); rotate_right; conv => whnf) | (refine Exists.intro ⟨⟨⟨w, mem, inn⟩, ⟨size, ?_, ?_⟩, ?_⟩, ?_⟩ (And.intro ?_ (SubP.sub (σ := [(900000, some 900000), (4, some 4), (5, some 5), (107, some 43)]) ⟨⟨rfl, rfl, rfl⟩, ⟨⟨rfl, rfl⟩, ⟨rfl, rfl⟩, ⟨rfl, rfl⟩, o0 ?_, o0 ?_, trivial⟩, ⟨⟨j0 ?_, j0 ?_, j0 ?_, trivial⟩, ⟨rfl, rfl, rfl, rfl, trivial⟩, ⟨j0 ?_, j0 ?_, j0 ?_, rfl, trivial⟩, ⟨⟨rfl, rfl⟩, ?_⟩, trivial⟩⟩))) | (refine Exists.intro ⟨⟨⟨w, mem, inn⟩, ⟨size, ?_, ?_⟩, ?_⟩, ?_⟩ (And.intro ?_ (SubP.sub (σ := [(900000, some 900000), (4, some 4), (5, some 5), (107, some 54)]) ⟨⟨rfl, rfl, rfl⟩, ⟨⟨rfl, rfl⟩, ⟨rfl, rfl⟩, ⟨rfl, rfl⟩, o0 ?_, o0 ?_, trivial⟩, ⟨⟨j0 ?_, j0 ?_, j0 ?_, trivial⟩, ⟨rfl, rfl, rfl, rfl, trivial⟩, ⟨j0 ?_, j0 ?_, j0 ?_, rfl, trivial⟩, ⟨⟨rfl, rfl⟩, ?_⟩, trivial⟩⟩))) | ((with_reducible refine a6 (g := 29) ?_); refine ⟨_, _, xN (hi := ?_) (hl := asmR) .., fun res B hRB => ?_⟩; rotate_right; obtain ⟨x, i', g', rfl, rfl, hx, hi'⟩ := hRB; conv => whnf) | ((with_reducible refine a6 (g := 28) ?_); refine ⟨_, _, qS (hi := ?_) (hl := asmR) .., fun res B hRB => ?_⟩; rotate_right; obtain ⟨x, i', g', rfl, rfl, hi'⟩ := hRB; conv => whnf) | ((with_reducible refine a6 (g := 61) ?_); refine ⟨_, _, qhw (hi := ?_) (hl := asmR) (hw := ?_) (hs := ?_) (h0 := ?_) (h1 := ?_) .., fun res B hRB => ?_⟩; rotate_right; obtain ⟨op, a, c, d, i', g', rfl, rfl, hp, hi'⟩ := hRB; conv => whnf) | (intro h; conv => whnf))
  all_goals repeat clear hK K1
  all_goals first | (with_reducible assumption) | (with_reducible rfl) | exact hI.hi | exact drawI_w hI | exact mT hI asmR (qci hI asmR) asmR | exact mT hI asmR asmR asmR | exact mT hI asmR (qci hI asmR) hI.hi | exact drawI_0 asmR asmR asmR asmR asmR | exact (qef asmR (drawI_s hI)).symm | exact (rfl : Dat.i ((([] : List V.Ins).length : Nat) : Int) = Dat.int .i64 0) | exact ⟨_, _, _, _, _, _, rfl, rfl, qif hI asmR, hI.hi⟩ | (show size.toNat - (code ++ [_]).length < size.toNat - code.length; simp; omega) | (show (code.length + 1) * 32 ≤ 140737488355328; have q1 := hI.hs; have q2 := hI.hn; have q3 := hI.hc; simp only at q1 q2 q3; omega) | (show code.length + 1 ≤ maxLen; have q1 := hI.hs; have q2 := hI.hn; have q3 := hI.hc; have hm : maxLen = 9223372036854775807 := rfl; simp only at q1 q2 q3; omega) | (have q1 := hI.hs; have q2 := hI.hn; simp only at q1 q2; omega) | omega | (show ([] : List V.Ins).length = 0; rfl) | exact rfl | skip
structure GivI (w mem inn i : Int) (code : List V.Ins) (k : Int) : Prop where
  hp : y4 ⟨w, mem, inn, code⟩ = true
  hi : 0 ≤ i
  hk : 0 ≤ k
theorem zN {w mem inn i k : Int} {code : List V.Ins} (h : GivI w mem inn i code k) : code.length ≤ 40 := prog_c h.hp
theorem givI_st {w mem inn i : Int} {code : List V.Ins} (hp : y4 ⟨w, mem, inn, code⟩ = true) (hi : 0 ≤ i) : GivI w mem inn i code inn := ⟨hp, hi, (oQ hp).1⟩
theorem qfw {w mem inn : Int} {code : List V.Ins} {y : V.Ins} (k : Nat) (hp : y4 ⟨w, mem, inn, code⟩ = true) (hy : d5 y w code.length = true) : y4 ⟨w, mem, inn, code.set k y⟩ = true := by
  simp only [y4, Bool.and_eq_true, List.all_eq_true, List.length_set] at hp ⊢
  refine ⟨hp.1, fun x hx => ?_⟩
  rcases List.mem_or_eq_of_mem_set hx with h | h
  · exact hp.2 x h
  · subst h; exact hy
theorem qhz {w mem inn i i' k : Int} {code : List V.Ins} (h : GivI w mem inn i code k) (hi : 0 ≤ i') (hk : k < code.length) : GivI w mem inn i' code (IntKind.i64.wrap (k + 1)) := by
  have h1 := h.hk; have h2 := zN h
  exact ⟨h.hp, hi, by rw [wrap_id omG omG]; omega⟩
theorem qh0 {w mem inn i i' k a x : Int} {code : List V.Ins} (h : GivI w mem inn i code k) (hi : 0 ≤ i') (hk : k < code.length) (ha : 0 ≤ a ∧ a ≤ 255 ∧ ((0 : Int) < 3 → a < 3))
    (hx : 0 ≤ x ∧ x ≤ 255 ∧ (0 < IntKind.i64.wrap ((code.length : Int) - k) → x < IntKind.i64.wrap ((code.length : Int) - k))) :
    GivI w mem inn i' (code.set k.toNat ⟨10, a, IntKind.i64.wrap (IntKind.i64.wrap (k + 1) + x), 0⟩) (IntKind.i64.wrap (k + 1)) := by
  have h1 := h.hk; have h2 := zN h
  refine ⟨qfw _ h.hp (mk10 omG (qQ omG h1 hk hx)), hi, by rw [wrap_id omG omG]; omega⟩
theorem qbg {code : List V.Ins} {k : Int} (h0 : 0 ≤ k) (hl : code.length ≤ 40) (hk : k < code.length) : ((code.length : Int) - IntKind.i64.wrap (k + 1)).toNat < ((code.length : Int) - k).toNat := by
  rw [wrap_id omG omG]; omega
theorem giv_mu1 {code : List V.Ins} {y : V.Ins} {k : Int} (h0 : 0 ≤ k) (hl : code.length ≤ 40) (hk : k < code.length) : (((code.set k.toNat y).length : Int) - IntKind.i64.wrap (k + 1)).toNat < ((code.length : Int) - k).toNat := by
  rw [List.length_set]; exact qbg h0 hl hk
theorem qip (b : List Int) (n : Int) (hn : 0 ≤ n) (hl : b.length ≤ maxLen) : CallsF Tryz.prog 6 [.dat (.seq .bytes b), .dat (.i n)] true (fun res B => ∃ (w mem inn : Int) (code : List V.Ins), res = .agg [.dat (.i w), .dat (.i mem), .dat (.i inn), .row 0] ∧ B = [.row 66 .inss code false] ∧ y4 ⟨w, mem, inn, code⟩ = true) := by
  refine oF Tryz.func6 ⟨?_⟩
  repeat' (first | ((with_reducible refine Alt.r ?_); conv => whnf) | ((with_reducible refine fun (K1 : KT) hK => ?_); refine m4 ⟨?_⟩) | ((with_reducible show K1 _ _); subst hK; conv => whnf) | (with_reducible exact rfl) | refine st0 ⟨?_⟩ | ((with_reducible refine SplS.mk (fun h => ?_) (fun h => ?_)) <;> first | exact r0 | (subst h; conv => whnf) | (conv => whnf)) | refine f1 ⟨?_⟩ ⟨?_⟩ | (refine Exists.intro ({x : (Int × Int × Int) × (Int × Int × Int) × List V.Ins // GivI x.1.1 x.1.2.1 x.1.2.2 x.2.1.1 x.2.2 x.2.1.2.2}) (Exists.intro (fun ⟨⟨⟨w, mem, inn⟩, ⟨i, g, k⟩, code⟩, hI⟩ => r4 Tryz.f6.ntmps [(4, .ptr 4 0), (5, .ptr 105 0), (6, .ptr 6 0), (7, .dat (.i k))] [(105, .box [.dat (.seq .bytes b), .dat (.i i), .dat (.i g)]), (4, .box [.cell, .cell, .cell, .cell]), (6, .box [.dat (.i w), .dat (.i mem), .dat (.i inn), .row 107]), (107, .row 66 .inss code false)]) (Exists.intro (fun ⟨⟨⟨w, mem, inn⟩, ⟨i, g, k⟩, code⟩, hI⟩ => (code.length - k).toNat) (Exists.intro ⟨⟨⟨?_, ?_, ?_⟩, ⟨?_, ?_, ?_⟩, ?_⟩, ?_⟩ (And.intro (SubP.sub (σ := [(105, some 11000), (4, some 4), (6, some 6), (107, some 13001)]) ⟨⟨rfl, rfl, rfl⟩, ⟨⟨rfl, rfl⟩, ⟨rfl, rfl⟩, ⟨rfl, rfl⟩, o0 ?_, trivial⟩, ⟨⟨j0 ?_, j0 ?_, j0 ?_, trivial⟩, ⟨rfl, rfl, rfl, rfl, trivial⟩, ⟨j0 ?_, j0 ?_, j0 ?_, rfl, trivial⟩, ⟨⟨rfl, rfl⟩, ?_⟩, trivial⟩⟩) (fun ⟨⟨⟨w, mem, inn⟩, ⟨i, g, k⟩, code⟩, hI⟩ => ?_))))); rotate_right; conv => whnf) | (refine Exists.intro ⟨⟨⟨w, mem, inn⟩, ⟨?_, ?_, ?_⟩, ?_⟩, ?_⟩ (And.intro ?_ (SubP.sub (σ := [(105, some 105), (4, some 4), (6, some 6), (107, some 107)]) ⟨⟨rfl, rfl, rfl⟩, ⟨⟨rfl, rfl⟩, ⟨rfl, rfl⟩, ⟨rfl, rfl⟩, o0 ?_, trivial⟩, ⟨⟨j0 ?_, j0 ?_, j0 ?_, trivial⟩, ⟨rfl, rfl, rfl, rfl, trivial⟩, ⟨j0 ?_, j0 ?_, j0 ?_, rfl, trivial⟩, ⟨⟨rfl, rfl⟩, ?_⟩, trivial⟩⟩))) | ((with_reducible refine o8 (g := 26) ?_); refine ⟨_, _, uT (hl := ?_) .., rfl, zV ?_⟩; rotate_right; conv => whnf) | ((with_reducible refine a6 (g := 27) ?_); refine ⟨_, _, qhx (hi := ?_) (hl := asmR) .., fun res B hRB => ?_⟩; rotate_right; obtain ⟨w, mem, inn, i', g', code, rfl, rfl, hp, hi'⟩ := hRB; conv => whnf) | ((with_reducible refine a6 (g := 28) ?_); refine ⟨_, _, qS (hi := ?_) (hl := asmR) .., fun res B hRB => ?_⟩; rotate_right; obtain ⟨x, i', g', rfl, rfl, hi'⟩ := hRB; conv => whnf) | ((with_reducible refine a6 (g := 29) ?_); refine ⟨_, _, xN (hi := ?_) (hl := asmR) .., fun res B hRB => ?_⟩; rotate_right; obtain ⟨x, i', g', rfl, rfl, hx, hi'⟩ := hRB; conv => whnf) | (intro h; conv => whnf))
  all_goals repeat clear hK K1
  all_goals first | (with_reducible assumption) | (with_reducible rfl) | exact oO hn | exact hI.hi | exact givI_st asmR asmR | exact qhz hI asmR asmR | exact qh0 hI asmR asmR asmR asmR | exact hI.hk | exact ⟨_, _, _, _, rfl, rfl, hI.hp⟩ | exact giv_mu1 hI.hk (zN hI) asmR | (have q : 0 ≤ k := hI.hk; have q2 : k < code.length := asmR; omega) | exact qbg hI.hk (zN hI) asmR | omega | skip
theorem qc9 (b : List Int) (n : Int) (hn : 0 ≤ n) (hl : b.length ≤ maxLen) : CallsF Tryz.prog 6 [.dat (.seq .bytes b), .dat (.i n)] true (fun res B => (∃ (w mem inn : Int) (code : List V.Ins), res = .agg [.dat (.i w), .dat (.i mem), .dat (.i inn), .dat (.seq .inss code)] ∧ y4 ⟨w, mem, inn, code⟩ = true) ∧ B = []) :=
  (qip b n hn hl).toE (Q := fun res => ∃ (w mem inn : Int) (code : List V.Ins), res = .agg [.dat (.i w), .dat (.i mem), .dat (.i inn), .dat (.seq .inss code)] ∧ y4 ⟨w, mem, inn, code⟩ = true) fun res B' ⟨w, mem, inn, code, h1, h2, h3⟩ => ⟨_, ⟨w, mem, inn, code, rfl, h3⟩, by subst h1 h2; exact ⟨rfl, rfl, rfl, rfl, trivial⟩⟩
end Vg
