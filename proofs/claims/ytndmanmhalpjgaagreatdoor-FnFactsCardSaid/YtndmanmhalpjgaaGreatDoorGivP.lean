/- The cursor that draws numbers out of bytes: contracts. Condition: the place in the bytes is not negative. -/
import Derived.Test.YtndmanmhalpjgaaGreatDoorBase
import Derived.Test.YtndmanmhalpjgaaGreatDoorRet
import Derived.Test.YtndmanmhalpjgaaGreatDoorRedQ
import Derived.Test.YtndmanmhalpjgaaGreatDoorSess
namespace Vg
open Go Go.Proofs
set_option maxRecDepth 100000
set_option maxHeartbeats 40000000
def jB (a b : Int) : Int := IntKind.i64.wrap (BitVec.ofInt IntKind.i64.bits a &&& BitVec.ofInt IntKind.i64.bits b).toNat
def sL (a b : Int) : Int := IntKind.i64.wrap (BitVec.ofInt IntKind.i64.bits a ^^^ BitVec.ofInt IntKind.i64.bits b).toNat
theorem and_low (a : Int) {m : Nat} (hm : m < 9223372036854775808) : 0 ≤ jB a m ∧ jB a m ≤ m := by
  have h : (BitVec.ofInt IntKind.i64.bits a &&& BitVec.ofInt IntKind.i64.bits (m : Int)).toNat ≤ m := by
    rw [BitVec.toNat_and]
    refine Nat.le_trans Nat.and_le_right ?_
    rw [BitVec.toNat_ofInt]
    have : (IntKind.i64.bits) = 64 := rfl
    rw [this]; omega
  unfold jB
  rw [u4 omG omG]; omega
theorem qV (a : Int) : 0 ≤ jB a 255 ∧ jB a 255 ≤ 255 := and_low a (m := 255) (by decide)
def aD (h : Int) : Int := IntKind.i64.wrap (IntKind.i64.wrap (h * 6364136223846793005) + 1442695040888963407)
def zC (b : List Int) (i : Int) : Int := if i < b.length then i + 1 else i
def dG (h : Int) : Int := jB (sL ((aD h).fdiv (2 ^ (min (33 : Int).toNat IntKind.i64.bits))) ((aD h).fdiv (2 ^ (min (45 : Int).toNat IntKind.i64.bits)))) 255
def y9 (b : List Int) (i h : Int) : Int := if i < b.length then jB (IntKind.i64.wrap (dG h + IntKind.i64.wrap (b.getD i.toNat 0))) 255 else dG h
theorem curX_y {b : List Int} {i h : Int} (hi : i < b.length) : y9 b i h = jB (IntKind.i64.wrap (dG h + IntKind.i64.wrap (b.getD i.toNat 0))) 255 := if_pos hi
theorem curX_n {b : List Int} {i h : Int} (hi : ¬ i < b.length) : y9 b i h = dG h := if_neg hi
theorem curI_y {b : List Int} {i : Int} (h0 : 0 ≤ i) (hi : i < b.length) (hl : b.length ≤ maxLen) : zC b i = IntKind.i64.wrap (i + 1) := by
  have hm : maxLen = 9223372036854775807 := rfl
  rw [zC, if_pos hi, u4 omG omG]
theorem curI_n {b : List Int} {i : Int} (hi : ¬ i < b.length) : zC b i = i := if_neg hi
theorem sU {b : List Int} {i : Int} (h : 0 ≤ i) : 0 ≤ zC b i := by unfold zC; split <;> omega
theorem curX_r (b : List Int) (i h : Int) : 0 ≤ y9 b i h ∧ y9 b i h ≤ 255 := by
  unfold y9; split
  · exact qV _
  · exact qV _
theorem nO {i i' h h' : Int} {s : Dat} (h2 : i = i') (h3 : h = h') : [Blk.box [.dat s, .dat (.i i), .dat (.i h)]] = [Blk.box [.dat s, .dat (.i i'), .dat (.i h')]] := by rw [h2, h3]
theorem yM {x x' : Int} (h : x = x') : AV.dat (.int .i64 x) = AV.dat (.i x') := by rw [h]
theorem bV (b : List Int) (i g : Int) (hi : 0 ≤ i) (hl : b.length ≤ maxLen) : CallsG Tryz.prog 25 [.ptr 0 0] [.box [.dat (.seq .bytes b), .dat (.i i), .dat (.i g)]] 1 (fun res B => res = .dat (.i (y9 b i g)) ∧ B = [.box [.dat (.seq .bytes b), .dat (.i (zC b i)), .dat (.i (aD g))]]) := by
  refine oG Tryz.func25 ⟨?_⟩
  repeat' (first | ((with_reducible refine fun (K1 : KT) hK => ?_); refine j4 ⟨?_⟩) | ((with_reducible show K1 _ _); subst hK; conv => whnf) | (with_reducible exact rfl) | refine m0 ⟨?_⟩ | ((with_reducible refine SplS.mk (fun h => ?_) (fun h => ?_)) <;> first | exact z1 | (subst h; conv => whnf) | (conv => whnf)) | refine u2 ⟨?_⟩ ⟨?_⟩ | (intro h; conv => whnf))
  all_goals repeat clear hK K1
  all_goals first | (with_reducible assumption) | ((with_reducible refine yM ?_); first | (rw [curX_y asmR]; unfold dG jB sL aD; rfl) | (rw [curX_n asmR]; unfold dG jB sL aD; rfl)) | ((with_reducible refine nO ?_ ?_) <;> first | (with_reducible exact (curI_y hi (by assumption) hl).symm) | (with_reducible exact (curI_n (by assumption)).symm) | (unfold aD; rfl)) | decide
def rD (b : List Int) (i h n : Int) : Int := if n ≤ 0 then 0 else (y9 b i h).tmod n
def fG (b : List Int) (i n : Int) : Int := if n ≤ 0 then i else zC b i
def belH (h n : Int) : Int := if n ≤ 0 then h else aD h
theorem gV {b : List Int} {i n : Int} (h : 0 ≤ i) : 0 ≤ fG b i n := by unfold fG; split; exact h; exact sU h
theorem belX_r (b : List Int) (i h n : Int) : 0 ≤ rD b i h n ∧ rD b i h n ≤ 255 ∧ (0 < n → rD b i h n < n) := by
  have h1 := curX_r b i h
  unfold rD; split
  · omega
  · have h2 := Int.tmod_nonneg n h1.1
    have h3 := Int.tmod_lt_of_pos (y9 b i h) (show 0 < n by omega)
    refine ⟨h2, ?_, fun _ => h3⟩
    have h4 : (y9 b i h).tmod n ≤ y9 b i h := by
      rw [Int.tmod_eq_emod_of_nonneg h1.1]
      have e := Int.emod_add_mul_ediv (y9 b i h) n
      have q := Int.mul_nonneg (show 0 ≤ n by omega) (Int.ediv_nonneg h1.1 (show 0 ≤ n by omega))
      omega
    omega
theorem belX_y {b : List Int} {i h n : Int} (hn : n ≤ 0) : rD b i h n = 0 := if_pos hn
theorem belX_n {b : List Int} {i h n : Int} (hn : ¬ n ≤ 0) : rD b i h n = (y9 b i h).tmod n := if_neg hn
theorem belI_y {b : List Int} {i n : Int} (hn : n ≤ 0) : fG b i n = i := if_pos hn
theorem belI_n {b : List Int} {i n : Int} (hn : ¬ n ≤ 0) : fG b i n = zC b i := if_neg hn
theorem belH_y {h n : Int} (hn : n ≤ 0) : belH h n = h := if_pos hn
theorem belH_n {h n : Int} (hn : ¬ n ≤ 0) : belH h n = aD h := if_neg hn
theorem cV (b : List Int) (i g n : Int) (hi : 0 ≤ i) (hl : b.length ≤ maxLen) : CallsG Tryz.prog 34 [.ptr 0 0, .dat (.i n)] [.box [.dat (.seq .bytes b), .dat (.i i), .dat (.i g)]] 1 (fun res B => res = .dat (.i (rD b i g n)) ∧ B = [.box [.dat (.seq .bytes b), .dat (.i (fG b i n)), .dat (.i (belH g n))]]) := by
  refine oG Tryz.func34 ⟨?_⟩
  repeat' (first | ((with_reducible refine fun (K1 : KT) hK => ?_); refine j4 ⟨?_⟩) | ((with_reducible show K1 _ _); subst hK; conv => whnf) | (with_reducible exact rfl) | refine m0 ⟨?_⟩ | ((with_reducible refine SplS.mk (fun h => ?_) (fun h => ?_)) <;> first | exact z1 | (subst h; conv => whnf) | (conv => whnf)) | refine u2 ⟨?_⟩ ⟨?_⟩ | ((with_reducible refine a8 (g := 25) ?_); refine ⟨_, _, bV (hi := ?_) (hl := ?_) .., zV ?_⟩; rotate_right; conv => whnf) | (intro h; conv => whnf))
  all_goals repeat clear hK K1
  all_goals first | (with_reducible assumption) | exact yM (belX_y (by assumption)).symm | exact yM (belX_n (by assumption)).symm | exact nO (belI_y (by assumption)).symm (belH_y (by assumption)).symm | exact nO (belI_n (by assumption)).symm (belH_n (by assumption)).symm | omega | skip
theorem qa2 (b : List Int) (i g n : Int) (hi : 0 ≤ i) (hl : b.length ≤ maxLen) : CallsG Tryz.prog 37 [.ptr 0 0, .dat (.i n)] [.box [.dat (.seq .bytes b), .dat (.i i), .dat (.i g)]] 1 (fun res B => res = .dat (.bool (decide (rD b i g n = 0))) ∧ B = [.box [.dat (.seq .bytes b), .dat (.i (fG b i n)), .dat (.i (belH g n))]]) := by
  refine oG Tryz.func37 ⟨?_⟩
  repeat' (first | ((with_reducible refine fun (K1 : KT) hK => ?_); refine j4 ⟨?_⟩) | ((with_reducible show K1 _ _); subst hK; conv => whnf) | (with_reducible exact rfl) | ((with_reducible refine SplS.mk (fun h => ?_) (fun h => ?_)) <;> first | exact z1 | (subst h; conv => whnf) | (conv => whnf)) | refine u2 ⟨?_⟩ ⟨?_⟩ | ((with_reducible refine a8 (g := 34) ?_); refine ⟨_, _, cV (hi := ?_) (hl := ?_) .., zV ?_⟩; rotate_right; conv => whnf) | (intro h; conv => whnf))
  all_goals repeat clear hK K1
  all_goals first | (with_reducible assumption) | rfl | omega | skip
def hash0 (b : List Int) : Int := IntKind.i64.wrap (55127 + b.length)
def rK (b : List Int) : Nat → Int
  | 0 => hash0 b
  | k + 1 => jB (IntKind.i64.wrap (IntKind.i64.wrap (IntKind.i64.wrap (rK b k * 131) + IntKind.i64.wrap (b.getD k 0)) + 7)) 1073741823
def uB (b : List Int) : Nat := min b.length 4000
theorem qae {b : List Int} {k : Nat} (hk : k ≤ uB b) (h : ¬ (k : Int) < b.length) : k = uB b := by unfold uB at *; omega
theorem qad {b : List Int} {k : Nat} (hk : k ≤ uB b) (h : ¬ (k : Int) < 4000) : k = uB b := by unfold uB at *; omega
theorem hash_lt {b : List Int} {k : Nat} (h1 : (k : Int) < b.length) (h2 : (k : Int) < 4000) : k + 1 ≤ uB b := by unfold uB; omega
theorem qa3 (b : List Int) (_hl : b.length ≤ maxLen) : CallsF Tryz.prog 38 [.dat (.seq .bytes b)] false (fun res B => res = .ptr 0 0 ∧ B = [.box [.dat (.seq .bytes b), .dat (.i 0), .dat (.i (rK b (uB b)))]]) := by
  refine oF Tryz.func38 ⟨?_⟩
  repeat' (first | ((with_reducible refine fun (K1 : KT) hK => ?_); refine j4 ⟨?_⟩) | ((with_reducible show K1 _ _); subst hK; conv => whnf) | (with_reducible exact rfl) | refine m0 ⟨?_⟩ | ((with_reducible refine SplS.mk (fun h => ?_) (fun h => ?_)) <;> first | exact z1 | (subst h; conv => whnf) | (conv => whnf)) | refine u2 ⟨?_⟩ ⟨?_⟩ | (refine Exists.intro ({k : Nat // k ≤ uB b}) (Exists.intro (fun ⟨k, hk⟩ => z7 Tryz.f38.ntmps [(0, .dat (.seq .bytes b)), (3, .dat (.i (rK b k))), (4, .dat (.i k))] []) (Exists.intro (fun ⟨k, hk⟩ => b.length - k) (Exists.intro ⟨0, Nat.zero_le _⟩ (And.intro (SubP.sub (σ := []) ⟨⟨rfl, rfl, rfl⟩, ⟨r0 ?_, r0 ?_, r0 ?_, trivial⟩, trivial⟩) (fun ⟨k, hk⟩ => ?_))))); rotate_right; conv => whnf) | (refine Exists.intro ⟨k + 1, ?_⟩ (And.intro ?_ (SubP.sub (σ := []) ⟨⟨rfl, rfl, rfl⟩, ⟨r0 ?_, r0 ?_, r0 ?_, trivial⟩, trivial⟩))) | (intro h; conv => whnf))
  all_goals repeat clear hK K1
  all_goals first | (with_reducible assumption) | (with_reducible rfl) | exact hash_lt (by assumption) (by assumption) | omega | (dsimp only; omega) | exact congrArg (Dat.int .i64) (u4 omG omG).symm | exact (rfl : Dat.i ((0 : Nat) : Int) = Dat.int .i64 0) | (have e := qae hk (by assumption); rw [← e]; rfl) | (have e := qad hk (by assumption); rw [← e]; rfl) | rfl | skip
def atI (b : List Int) (n : Int) : Int := if (b.length : Int) < n then b.length else n
def atH (b : List Int) (n : Int) : Int := jB (IntKind.i64.wrap (IntKind.i64.wrap (IntKind.i64.wrap (rK b (uB b) * 31) + IntKind.i64.wrap (n * 7919)) + 1)) 1073741823
theorem nI {b : List Int} {n : Int} (h : 0 ≤ n) : 0 ≤ atI b n := by unfold atI; split <;> omega
theorem mO (b : List Int) (n : Int) (hl : b.length ≤ maxLen) : CallsF Tryz.prog 15 [.dat (.seq .bytes b), .dat (.i n)] false (fun res B => res = .ptr 0 0 ∧ B = [.box [.dat (.seq .bytes b), .dat (.i (atI b n)), .dat (.i (atH b n))]]) := by
  refine oF Tryz.func15 ⟨?_⟩
  repeat' (first | ((with_reducible refine fun (K1 : KT) hK => ?_); refine j4 ⟨?_⟩) | ((with_reducible show K1 _ _); subst hK; conv => whnf) | (with_reducible exact rfl) | refine m0 ⟨?_⟩ | ((with_reducible refine SplS.mk (fun h => ?_) (fun h => ?_)) <;> first | exact z1 | (subst h; conv => whnf) | (conv => whnf)) | refine u2 ⟨?_⟩ ⟨?_⟩ | ((with_reducible refine vB (g := 38) ?_); refine ⟨_, _, qa3 (_hl := ?_) .., rfl, zV ?_⟩; rotate_right; conv => whnf) | (intro h; conv => whnf))
  all_goals repeat clear hK K1
  all_goals first | (with_reducible assumption) | rfl | omega | skip
def numX (b : List Int) (n : Int) : Int := IntKind.i64.wrap (IntKind.i64.wrap (256 * y9 b (atI b n) (atH b n)) + y9 b (zC b (atI b n)) (aD (atH b n)))
theorem qa4 (b : List Int) (n : Int) (hn : 0 ≤ n) (hl : b.length ≤ maxLen) : CallsV Tryz.prog 9 [.dat (.seq .bytes b), .dat (.i n)] (.dat (.i (numX b n))) := by
  refine oV Tryz.func9 ⟨?_⟩
  repeat' (first | ((with_reducible refine fun (K1 : KT) hK => ?_); refine j4 ⟨?_⟩) | ((with_reducible show K1 _ _); subst hK; conv => whnf) | (with_reducible exact rfl) | refine m0 ⟨?_⟩ | ((with_reducible refine SplS.mk (fun h => ?_) (fun h => ?_)) <;> first | exact z1 | (subst h; conv => whnf) | (conv => whnf)) | ((with_reducible refine vB (g := 15) ?_); refine ⟨_, _, mO (hl := ?_) .., rfl, zV ?_⟩; rotate_right; conv => whnf) | ((with_reducible refine a8 (g := 25) ?_); refine ⟨_, _, bV (hi := ?_) (hl := ?_) .., zV ?_⟩; rotate_right; conv => whnf) | (intro h; conv => whnf))
  all_goals repeat clear hK K1
  all_goals first | (with_reducible assumption) | rfl | exact nI hn | exact sU (nI hn) | omega | skip
theorem sH (b : List Int) (i g n : Int) (hi : 0 ≤ i) (hl : b.length ≤ maxLen) : CallsG Tryz.prog 34 [.ptr 0 0, .dat (.i n)] [.box [.dat (.seq .bytes b), .dat (.i i), .dat (.i g)]] 1
    (fun res B => ∃ x i' g' : Int, res = .dat (.i x) ∧ B = [.box [.dat (.seq .bytes b), .dat (.i i'), .dat (.i g')]] ∧ (0 ≤ x ∧ x ≤ 255 ∧ (0 < n → x < n)) ∧ 0 ≤ i') :=
  (cV b i g n hi hl).mono fun _ _ ⟨h1, h2⟩ => ⟨_, _, _, h1, h2, belX_r .., gV hi⟩
theorem lT (b : List Int) (i g n : Int) (hi : 0 ≤ i) (hl : b.length ≤ maxLen) : CallsG Tryz.prog 37 [.ptr 0 0, .dat (.i n)] [.box [.dat (.seq .bytes b), .dat (.i i), .dat (.i g)]] 1
    (fun res B => ∃ (x : Bool) (i' g' : Int), res = .dat (.bool x) ∧ B = [.box [.dat (.seq .bytes b), .dat (.i i'), .dat (.i g')]] ∧ 0 ≤ i') :=
  (qa2 b i g n hi hl).mono fun _ _ ⟨h1, h2⟩ => ⟨_, _, _, h1, h2, gV hi⟩
theorem qak {l : List Int} {x : Int} (h0 : 0 ≤ x) (h : x < l.length) : l.getD x.toNat K.ints.dflt ∈ l := by
  have h' : x.toNat < l.length := by omega
  rw [List.getD_eq_getElem?_getD, List.getElem?_eq_getElem h']
  exact List.getElem_mem h'
theorem kT (b : List Int) (i g : Int) (l : List Int) (hi : 0 ≤ i) (hl : b.length ≤ maxLen) (h1 : 0 < l.length) : CallsG Tryz.prog 36 [.ptr 0 0, .row 1] [.box [.dat (.seq .bytes b), .dat (.i i), .dat (.i g)], .row 3 .ints l false] 2 (fun res B => ∃ x i' g' : Int, res = .dat (.i x) ∧ B = [.box [.dat (.seq .bytes b), .dat (.i i'), .dat (.i g')], .row 3 .ints l false] ∧ x ∈ l ∧ 0 ≤ i') := by
  refine oG Tryz.func36 ⟨?_⟩
  repeat' (first | ((with_reducible refine fun (K1 : KT) hK => ?_); refine j4 ⟨?_⟩) | ((with_reducible show K1 _ _); subst hK; conv => whnf) | (with_reducible exact rfl) | ((with_reducible refine SplS.mk (fun h => ?_) (fun h => ?_)) <;> first | exact z1 | (subst h; conv => whnf) | (conv => whnf)) | refine u2 ⟨?_⟩ ⟨?_⟩ | ((with_reducible refine a8 (g := 34) ?_); refine ⟨_, _, sH (hi := ?_) (hl := asmR) .., fun res B hRB => ?_⟩; rotate_right; obtain ⟨x, i', g', rfl, rfl, hx, hi'⟩ := hRB; conv => whnf) | (intro h; conv => whnf))
  all_goals repeat clear hK K1
  all_goals first | (with_reducible assumption) | exact ⟨_, _, _, rfl, rfl, qak omG omG, by assumption⟩ | omega | skip
theorem mk1 {a w n size : Int} (ha : 0 ≤ a ∧ a ≤ 255 ∧ ((0 : Int) < 4 → a < 4)) (hw : inP w 1 16 = true) : u6 ⟨1, a, a7 w n, 0⟩ w size = true := by
  simp [u6, regP, inP, wordOf_word n hw]; omega
theorem mk2 {op a b w size : Int} (ho : op = 2 ∨ op = 7 ∨ op = 8) (ha : 0 ≤ a ∧ a ≤ 255 ∧ ((0 : Int) < 4 → a < 4)) (hb : 0 ≤ b ∧ b ≤ 255 ∧ ((0 : Int) < 4 → b < 4)) : u6 ⟨op, a, b, 0⟩ w size = true := by
  rcases ho with rfl | rfl | rfl <;> simp [u6, regP, inP] <;> omega
theorem mk4 {op a w size : Int} (ho : op = 4 ∨ op = 5 ∨ op = 6 ∨ op = 13) (ha : 0 ≤ a ∧ a ≤ 255 ∧ ((0 : Int) < 4 → a < 4)) : u6 ⟨op, a, 0, 0⟩ w size = true := by
  rcases ho with rfl | rfl | rfl | rfl <;> simp [u6, regP, inP] <;> omega
theorem mk9 {op x w size : Int} (ho : op = 9 ∨ op = 11) (hx : 0 ≤ x ∧ x ≤ size) : u6 ⟨op, 0, x, 0⟩ w size = true := by
  rcases ho with rfl | rfl <;> simp [u6, inP] <;> omega
theorem mk10 {a x w size : Int} (ha : 0 ≤ a ∧ a ≤ 255 ∧ ((0 : Int) < 4 → a < 4)) (hx : 0 ≤ x ∧ x ≤ size) : u6 ⟨10, a, x, 0⟩ w size = true := by
  simp [u6, regP, inP]; omega
end Vg
