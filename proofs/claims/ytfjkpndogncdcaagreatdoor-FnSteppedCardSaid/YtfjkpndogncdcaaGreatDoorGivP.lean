/- The cursor that draws numbers out of bytes: contracts. Condition: the place in the bytes is not negative. -/
import Derived.Test.YtfjkpndogncdcaaGreatDoorBase
import Derived.Test.YtfjkpndogncdcaaGreatDoorRet
import Derived.Test.YtfjkpndogncdcaaGreatDoorRedQ
import Derived.Test.YtfjkpndogncdcaaGreatDoorSess
namespace Vg
open Go Go.Proofs
set_option maxRecDepth 100000
set_option maxHeartbeats 40000000
def cE (a b : Int) : Int := IntKind.i64.wrap (BitVec.ofInt IntKind.i64.bits a &&& BitVec.ofInt IntKind.i64.bits b).toNat
def sS (a b : Int) : Int := IntKind.i64.wrap (BitVec.ofInt IntKind.i64.bits a ^^^ BitVec.ofInt IntKind.i64.bits b).toNat
theorem and_low (a : Int) {m : Nat} (hm : m < 9223372036854775808) : 0 <= cE a m /\ cE a m <= m := by
  have h : (BitVec.ofInt IntKind.i64.bits a &&& BitVec.ofInt IntKind.i64.bits (m : Int)).toNat <= m := by
    rw [BitVec.toNat_and]
    refine Nat.le_trans Nat.and_le_right ?_
    rw [BitVec.toNat_ofInt]
    have : (IntKind.i64.bits) = 64 := rfl
    rw [this]; omega
  unfold cE
  rw [j2 omG omG]; omega
theorem qgl (a : Int) : 0 <= cE a 255 /\ cE a 255 <= 255 := and_low a (m := 255) (by decide)
def lG (h : Int) : Int := IntKind.i64.wrap (IntKind.i64.wrap (h * 6364136223846793005) + 1442695040888963407)
def kG (b : List Int) (i : Int) : Int := if i < b.length then i + 1 else i
def vL (h : Int) : Int := cE (sS ((lG h).fdiv (2 ^ (min (33 : Int).toNat IntKind.i64.bits))) ((lG h).fdiv (2 ^ (min (45 : Int).toNat IntKind.i64.bits)))) 255
def yC (b : List Int) (i h : Int) : Int := if i < b.length then cE (IntKind.i64.wrap (vL h + IntKind.i64.wrap (b.getD i.toNat 0))) 255 else vL h
theorem curX_y {b : List Int} {i h : Int} (hi : i < b.length) : yC b i h = cE (IntKind.i64.wrap (vL h + IntKind.i64.wrap (b.getD i.toNat 0))) 255 := if_pos hi
theorem curX_n {b : List Int} {i h : Int} (hi : ¬ i < b.length) : yC b i h = vL h := if_neg hi
theorem curI_y {b : List Int} {i : Int} (h0 : 0 <= i) (hi : i < b.length) (hl : b.length <= maxLen) : kG b i = IntKind.i64.wrap (i + 1) := by
  have hm : maxLen = 9223372036854775807 := rfl
  rw [kG, if_pos hi, j2 omG omG]
theorem curI_n {b : List Int} {i : Int} (hi : ¬ i < b.length) : kG b i = i := if_neg hi
theorem qfg {b : List Int} {i : Int} (h : 0 <= i) : 0 <= kG b i := by unfold kG; split <;> omega
theorem fX (b : List Int) (i h : Int) : 0 <= yC b i h /\ yC b i h <= 255 := by
  unfold yC; split
  . exact qgl _
  . exact qgl _
theorem nX {i i' h h' : Int} {s : Dat} (h2 : i = i') (h3 : h = h') : [Blk.box [.dat s, .dat (.i i), .dat (.i h)]] = [Blk.box [.dat s, .dat (.i i'), .dat (.i h')]] := by rw [h2, h3]
theorem zU {x x' : Int} (h : x = x') : AV.dat (.int .i64 x) = AV.dat (.i x') := by rw [h]
theorem qfz (b : List Int) (i g : Int) (hi : 0 <= i) (hl : b.length <= maxLen) : CallsG Tryz.prog 59 [.ptr 0 0] [.box [.dat (.seq .bytes b), .dat (.i i), .dat (.i g)]] 1 (fun res B => res = .dat (.i (yC b i g)) /\ B = [.box [.dat (.seq .bytes b), .dat (.i (kG b i)), .dat (.i (lG g))]]) := by
  refine oG Tryz.func59 ⟨?_⟩
  repeat' (first | ((with_reducible refine fun (K1 : KT) hK => ?_); refine o5 ⟨?_⟩) | ((with_reducible show K1 _ _); subst hK; conv => whnf) | refine st0 ⟨?_⟩ | ((with_reducible refine SplS.mk (fun h => ?_) (fun h => ?_)) <;> first | exact m4 | (subst h; conv => whnf) | (conv => whnf)) | refine s1 ⟨?_⟩ ⟨?_⟩ | fail)
  all_goals repeat clear hK K1
  all_goals first | (with_reducible assumption) | ((with_reducible refine zU ?_); first | (rw [curX_y asmR]; unfold vL cE sS lG; rfl) | (rw [curX_n asmR]; unfold vL cE sS lG; rfl)) | ((with_reducible refine nX ?_ ?_) <;> first | (with_reducible exact (curI_y hi (by assumption) hl).symm) | (with_reducible exact (curI_n (by assumption)).symm) | (unfold lG; rfl)) | decide
def bH (b : List Int) (i h n : Int) : Int := if n <= 0 then 0 else (yC b i h).tmod n
def yJ (b : List Int) (i n : Int) : Int := if n <= 0 then i else kG b i
def qO (h n : Int) : Int := if n <= 0 then h else lG h
theorem qX {b : List Int} {i n : Int} (h : 0 <= i) : 0 <= yJ b i n := by unfold yJ; split; exact h; exact qfg h
theorem belX_r (b : List Int) (i h n : Int) : 0 <= bH b i h n /\ bH b i h n <= 255 /\ (0 < n -> bH b i h n < n) := by
  have h1 := fX b i h
  unfold bH; split
  . omega
  . have h2 := Int.tmod_nonneg n h1.1
    have h3 := Int.tmod_lt_of_pos (yC b i h) (show 0 < n by omega)
    refine ⟨h2, ?_, fun _ => h3⟩
    have h4 : (yC b i h).tmod n <= yC b i h := by
      rw [Int.tmod_eq_emod_of_nonneg h1.1]
      have e := Int.emod_add_mul_ediv (yC b i h) n
      have q := Int.mul_nonneg (show 0 <= n by omega) (Int.ediv_nonneg h1.1 (show 0 <= n by omega))
      omega
    omega
theorem belX_y {b : List Int} {i h n : Int} (hn : n <= 0) : bH b i h n = 0 := if_pos hn
theorem belX_n {b : List Int} {i h n : Int} (hn : ¬ n <= 0) : bH b i h n = (yC b i h).tmod n := if_neg hn
theorem belI_y {b : List Int} {i n : Int} (hn : n <= 0) : yJ b i n = i := if_pos hn
theorem belI_n {b : List Int} {i n : Int} (hn : ¬ n <= 0) : yJ b i n = kG b i := if_neg hn
theorem belH_y {h n : Int} (hn : n <= 0) : qO h n = h := if_pos hn
theorem belH_n {h n : Int} (hn : ¬ n <= 0) : qO h n = lG h := if_neg hn
theorem lX (b : List Int) (i g n : Int) (hi : 0 <= i) (hl : b.length <= maxLen) : CallsG Tryz.prog 24 [.ptr 0 0, .dat (.i n)] [.box [.dat (.seq .bytes b), .dat (.i i), .dat (.i g)]] 1 (fun res B => res = .dat (.i (bH b i g n)) /\ B = [.box [.dat (.seq .bytes b), .dat (.i (yJ b i n)), .dat (.i (qO g n))]]) := by
  refine oG Tryz.func24 ⟨?_⟩
  repeat' (first | ((with_reducible refine fun (K1 : KT) hK => ?_); refine o5 ⟨?_⟩) | ((with_reducible show K1 _ _); subst hK; conv => whnf) | refine st0 ⟨?_⟩ | ((with_reducible refine SplS.mk (fun h => ?_) (fun h => ?_)) <;> first | exact m4 | (subst h; conv => whnf) | (conv => whnf)) | refine s1 ⟨?_⟩ ⟨?_⟩ | refine gS (qfz (hi := ?_) (hl := ?_) ..) ⟨?_⟩ | (intro h; conv => whnf))
  all_goals repeat clear hK K1
  all_goals first | (with_reducible assumption) | exact zU (belX_y (by assumption)).symm | exact zU (belX_n (by assumption)).symm | exact nX (belI_y (by assumption)).symm (belH_y (by assumption)).symm | exact nX (belI_n (by assumption)).symm (belH_n (by assumption)).symm | omega | skip
theorem qm0 (b : List Int) (i g n : Int) (hi : 0 <= i) (hl : b.length <= maxLen) : CallsG Tryz.prog 23 [.ptr 0 0, .dat (.i n)] [.box [.dat (.seq .bytes b), .dat (.i i), .dat (.i g)]] 1 (fun res B => res = .dat (.bool (decide (bH b i g n = 0))) /\ B = [.box [.dat (.seq .bytes b), .dat (.i (yJ b i n)), .dat (.i (qO g n))]]) := by
  refine oG Tryz.func23 ⟨?_⟩
  repeat' (first | ((with_reducible refine fun (K1 : KT) hK => ?_); refine o5 ⟨?_⟩) | ((with_reducible show K1 _ _); subst hK; conv => whnf) | refine s1 ⟨?_⟩ ⟨?_⟩ | refine gS (lX (hi := ?_) (hl := ?_) ..) ⟨?_⟩ | fail)
  all_goals repeat clear hK K1
  all_goals first | (with_reducible assumption) | rfl | omega | skip
def hash0 (b : List Int) : Int := IntKind.i64.wrap (55127 + b.length)
def jR (b : List Int) : Nat -> Int
  | 0 => hash0 b
  | k + 1 => cE (IntKind.i64.wrap (IntKind.i64.wrap (IntKind.i64.wrap (jR b k * 131) + IntKind.i64.wrap (b.getD k 0)) + 7)) 1073741823
def aF (b : List Int) : Nat := min b.length 4000
theorem ql3 {b : List Int} {k : Nat} (hk : k <= aF b) (h : ¬ (k : Int) < b.length) : k = aF b := by unfold aF at *; omega
theorem ql2 {b : List Int} {k : Nat} (hk : k <= aF b) (h : ¬ (k : Int) < 4000) : k = aF b := by unfold aF at *; omega
theorem hash_lt {b : List Int} {k : Nat} (h1 : (k : Int) < b.length) (h2 : (k : Int) < 4000) : k + 1 <= aF b := by unfold aF; omega
theorem qm1 (b : List Int) (_hl : b.length <= maxLen) : CallsF Tryz.prog 57 [.dat (.seq .bytes b)] false (fun res B => res = .ptr 0 0 /\ B = [.box [.dat (.seq .bytes b), .dat (.i 0), .dat (.i (jR b (aF b)))]]) := by
  refine oF Tryz.func57 ⟨?_⟩
  repeat' (first | ((with_reducible refine fun (K1 : KT) hK => ?_); refine o5 ⟨?_⟩) | ((with_reducible show K1 _ _); subst hK; conv => whnf) | (with_reducible exact rfl) | refine st0 ⟨?_⟩ | ((with_reducible refine SplS.mk (fun h => ?_) (fun h => ?_)) <;> first | exact m4 | (subst h; conv => whnf) | (conv => whnf)) | refine s1 ⟨?_⟩ ⟨?_⟩ | (refine l5 ({k : Nat // k <= aF b}) (fun ⟨k, hk⟩ => j5 Tryz.f57.ntmps [(0, .dat (.seq .bytes b)), (3, .dat (.i (jR b k))), (4, .dat (.i k))] []) (fun ⟨k, hk⟩ => b.length - k) ⟨0, Nat.zero_le _⟩ (SubP.sub (σ := []) ⟨⟨rfl, rfl, rfl⟩, ⟨o0 ?_, o0 ?_, o0 ?_, trivial⟩, trivial⟩) (fun ⟨k, hk⟩ => ?_); rotate_right; conv => whnf) | (refine p5 ⟨k + 1, ?_⟩ ?_ (SubP.sub (σ := []) ⟨⟨rfl, rfl, rfl⟩, ⟨o0 ?_, o0 ?_, o0 ?_, trivial⟩, trivial⟩)) | (intro h; conv => whnf))
  all_goals repeat clear hK K1
  all_goals first | (with_reducible assumption) | exact hash_lt (by assumption) (by assumption) | omega | (dsimp only; omega) | exact congrArg (Dat.int .i64) (j2 omG omG).symm | (have e := ql3 hk (by assumption); rw [<- e]; rfl) | (have e := ql2 hk (by assumption); rw [<- e]; rfl) | rfl | skip
def atI (b : List Int) (n : Int) : Int := if (b.length : Int) < n then b.length else n
def atH (b : List Int) (n : Int) : Int := cE (IntKind.i64.wrap (IntKind.i64.wrap (IntKind.i64.wrap (jR b (aF b) * 31) + IntKind.i64.wrap (n * 7919)) + 1)) 1073741823
theorem bS {b : List Int} {n : Int} (h : 0 <= n) : 0 <= atI b n := by unfold atI; split <;> omega
theorem kX (b : List Int) (n : Int) (hl : b.length <= maxLen) : CallsF Tryz.prog 21 [.dat (.seq .bytes b), .dat (.i n)] false (fun res B => res = .ptr 0 0 /\ B = [.box [.dat (.seq .bytes b), .dat (.i (atI b n)), .dat (.i (atH b n))]]) := by
  refine oF Tryz.func21 ⟨?_⟩
  repeat' (first | ((with_reducible refine fun (K1 : KT) hK => ?_); refine o5 ⟨?_⟩) | ((with_reducible show K1 _ _); subst hK; conv => whnf) | refine st0 ⟨?_⟩ | refine s1 ⟨?_⟩ ⟨?_⟩ | refine eS (qm1 (_hl := ?_) ..) ⟨?_⟩ | (intro h; conv => whnf))
  all_goals repeat clear hK K1
  all_goals first | (with_reducible assumption) | rfl | omega | skip
def eJ (b : List Int) (n : Int) : Int := IntKind.i64.wrap (IntKind.i64.wrap (256 * yC b (atI b n) (atH b n)) + yC b (kG b (atI b n)) (lG (atH b n)))
theorem numX_r (b : List Int) (n : Int) : 0 <= eJ b n /\ eJ b n <= 65535 := by
  have h1 := fX b (atI b n) (atH b n)
  have h2 := fX b (kG b (atI b n)) (lG (atH b n))
  unfold eJ
  rw [j2 (n := 256 * _) omG omG, j2 omG omG]; omega
theorem qm6 (b : List Int) (n : Int) (hn : 0 <= n) (hl : b.length <= maxLen) : CallsV Tryz.prog 31 [.dat (.seq .bytes b), .dat (.i n)] (.dat (.i (eJ b n))) := by
  refine oV Tryz.func31 ⟨?_⟩
  repeat' (first | ((with_reducible refine fun (K1 : KT) hK => ?_); refine o5 ⟨?_⟩) | ((with_reducible show K1 _ _); subst hK; conv => whnf) | refine st0 ⟨?_⟩ | refine eS (kX (hl := ?_) ..) ⟨?_⟩ | refine gS (qfz (hi := ?_) (hl := ?_) ..) ⟨?_⟩ | fail)
  all_goals repeat clear hK K1
  all_goals first | (with_reducible assumption) | rfl | exact bS hn | exact qfg (bS hn) | omega | skip
def g8 (b : List Int) (n lo hi : Int) : Int := lo + (eJ b n).tmod (hi - lo + 1)
theorem qah (b : List Int) (n : Int) {lo hi : Int} (h : lo <= hi) : lo <= g8 b n lo hi /\ g8 b n lo hi <= hi := by
  have h1 := numX_r b n
  have h2 := Int.tmod_nonneg (hi - lo + 1) h1.1
  have h3 := Int.tmod_lt_of_pos (eJ b n) (show 0 < hi - lo + 1 by omega)
  unfold g8; omega
theorem size_e {b : List Int} {n lo hi : Int} (h1 : 0 <= lo) (h2 : lo <= hi) (h3 : hi <= 1000000) : IntKind.i64.wrap (lo + (eJ b n).tmod (IntKind.i64.wrap (IntKind.i64.wrap (hi - lo) + 1))) = g8 b n lo hi := by
  have h := qah b n h2
  unfold g8 at h ⊢
  rw [j2 (n := hi - lo) omG omG, j2 (n := hi - lo + 1) omG omG, j2 omG omG]
theorem qag {lo hi : Int} (h1 : 0 <= lo) (h2 : lo <= hi) (h3 : hi <= 1000000) : IntKind.i64.wrap (IntKind.i64.wrap (hi - lo) + 1) ≠ 0 := by
  rw [j2 (n := hi - lo) omG omG, j2 (n := hi - lo + 1) omG omG]; omega
theorem qm3 (b : List Int) (n lo hi : Int) (hn : 0 <= n) (h1 : 0 <= lo) (h2 : lo <= hi) (h3 : hi <= 1000000) (hl : b.length <= maxLen) : CallsV Tryz.prog 8 [.dat (.seq .bytes b), .dat (.i n), .dat (.i lo), .dat (.i hi)] (.dat (.i (g8 b n lo hi))) := by
  refine oV Tryz.func8 ⟨?_⟩
  repeat' (first | ((with_reducible refine fun (K1 : KT) hK => ?_); refine o5 ⟨?_⟩) | ((with_reducible show K1 _ _); subst hK; conv => whnf) | refine st0 ⟨?_⟩ | refine s1 ⟨?_⟩ ⟨?_⟩ | refine vP (qm6 (hn := ?_) (hl := ?_) ..) ⟨?_⟩ | (intro h; conv => whnf))
  all_goals repeat clear hK K1
  all_goals first | (with_reducible assumption) | exact congrArg (Dat.int .i64) (size_e h1 h2 h3).symm | exact qag h1 h2 h3 | exact qag h1 h2 h3 asmR | omega | skip
theorem kR (b : List Int) (i g n : Int) (hi : 0 <= i) (hl : b.length <= maxLen) : CallsG Tryz.prog 24 [.ptr 0 0, .dat (.i n)] [.box [.dat (.seq .bytes b), .dat (.i i), .dat (.i g)]] 1
    (fun res B => ∃ x i' g' : Int, res = .dat (.i x) /\ B = [.box [.dat (.seq .bytes b), .dat (.i i'), .dat (.i g')]] /\ (0 <= x /\ x <= 255 /\ (0 < n -> x < n)) /\ 0 <= i') :=
  (lX b i g n hi hl).mono fun _ _ ⟨h1, h2⟩ => ⟨_, _, _, h1, h2, belX_r .., qX hi⟩
theorem iW (b : List Int) (i g n : Int) (hi : 0 <= i) (hl : b.length <= maxLen) : CallsG Tryz.prog 23 [.ptr 0 0, .dat (.i n)] [.box [.dat (.seq .bytes b), .dat (.i i), .dat (.i g)]] 1
    (fun res B => ∃ (x : Bool) (i' g' : Int), res = .dat (.bool x) /\ B = [.box [.dat (.seq .bytes b), .dat (.i i'), .dat (.i g')]] /\ 0 <= i') :=
  (qm0 b i g n hi hl).mono fun _ _ ⟨h1, h2⟩ => ⟨_, _, _, h1, h2, qX hi⟩
theorem prog_c {w mem inn : Int} {c : List V.Ins} (h : f4 ⟨w, mem, inn, c⟩ = true) : c.length <= 40 := by
  simp [f4, inP] at h
  omega
theorem ql9 {l : List Int} {x : Int} (h0 : 0 <= x) (h : x < l.length) : l.getD x.toNat K.ints.dflt ∈ l := by
  have h' : x.toNat < l.length := by omega
  rw [List.getD_eq_getElem?_getD, List.getElem?_eq_getElem h']
  exact List.getElem_mem h'
theorem ql6 (b : List Int) (i g : Int) (l : List Int) (hi : 0 <= i) (hl : b.length <= maxLen) (h1 : 0 < l.length) : CallsG Tryz.prog 99 [.ptr 0 0, .row 1] [.box [.dat (.seq .bytes b), .dat (.i i), .dat (.i g)], .row 3 .ints l false] 2 (fun res B => ∃ x i' g' : Int, res = .dat (.i x) /\ B = [.box [.dat (.seq .bytes b), .dat (.i i'), .dat (.i g')], .row 3 .ints l false] /\ x ∈ l /\ 0 <= i') := by
  refine oG Tryz.func99 ⟨?_⟩
  repeat' (first | ((with_reducible refine fun (K1 : KT) hK => ?_); refine o5 ⟨?_⟩) | ((with_reducible show K1 _ _); subst hK; conv => whnf) | refine s1 ⟨?_⟩ ⟨?_⟩ | ((with_reducible refine kC (g := 24) ?_); refine ⟨_, _, kR (hi := ?_) (hl := asmR) .., fun res B hRB => ?_⟩; rotate_right; obtain ⟨x, i', g', rfl, rfl, hx, hi'⟩ := hRB; conv => whnf) | (intro h; conv => whnf))
  all_goals repeat clear hK K1
  all_goals first | (with_reducible assumption) | exact ⟨_, _, _, rfl, rfl, ql9 omG omG, by assumption⟩ | omega | skip
def givI (b : List Int) (n : Int) : Nat -> Int
  | 0 => atI b n
  | k + 1 => yJ b (givI b n k) 256
def givH (b : List Int) (n : Int) : Nat -> Int
  | 0 => atH b n
  | k + 1 => qO (givH b n k) 256
def o7 (w : Int) (b : List Int) (n : Int) : Nat -> List Int
  | 0 => []
  | k + 1 => o7 w b n k ++ [k9 w (bH b (givI b n k) (givH b n k) 256)]
theorem qd7 {b : List Int} {n : Int} (h : 0 <= n) : ∀ k, 0 <= givI b n k
  | 0 => bS h
  | k + 1 => qX (qd7 h k)
theorem lR (w : Int) (b : List Int) (n : Int) : ∀ k, (o7 w b n k).length = k
  | 0 => rfl
  | k + 1 => by rw [o7, List.length_append, lR w b n k]; rfl
theorem qd6 {w : Int} (b : List Int) (n : Int) (hw : inP w 1 16 = true) : ∀ k, ∀ x ∈ o7 w b n k, wordP w x = true
  | 0 => fun x hx => by simp [o7] at hx
  | k + 1 => fun x hx => by
    rw [o7, List.mem_append] at hx
    rcases hx with hx | hx
    . exact qd6 b n hw k x hx
    . rw [List.mem_singleton] at hx; subst hx; exact wordOf_word _ hw
theorem jU {p : V.Prog} (h : f4 p = true) : 0 <= p.inn /\ p.inn <= 3 /\ inP p.w 1 16 = true := by
  simp [f4, inP] at h ⊢
  omega
theorem qd4 {p : V.Prog} (b : List Int) (n : Int) (h : f4 p = true) : s8 p (o7 p.w b n p.inn.toNat) = true := by
  obtain ⟨h1, h2, h3⟩ := jU h
  simp only [s8, Bool.and_eq_true, List.all_eq_true]
  refine ⟨h, qd6 b n h3 _, ?_⟩
  rw [lR]; simp; omega
theorem qm7 (b : List Int) (n w mem inn : Int) (c : List V.Ins) (hn : 0 <= n) (hl : b.length <= maxLen) (h1 : inn <= 1000) : CallsF Tryz.prog 6 [.dat (.seq .bytes b), .dat (.i n), .agg [.dat (.i w), .dat (.i mem), .dat (.i inn), .dat (.seq .inss c)]] true (fun res B => res = .row 0 /\ B = [.row 3 .ints (o7 w b n inn.toNat) false]) := by
  refine oF Tryz.func6 ⟨?_⟩
  repeat' (first | ((with_reducible refine fun (K1 : KT) hK => ?_); refine o5 ⟨?_⟩) | ((with_reducible show K1 _ _); subst hK; conv => whnf) | (with_reducible exact rfl) | refine st0 ⟨?_⟩ | ((with_reducible refine SplS.mk (fun h => ?_) (fun h => ?_)) <;> first | exact m4 | (subst h; conv => whnf) | (conv => whnf)) | refine s1 ⟨?_⟩ ⟨?_⟩ | (refine l5 ({k : Nat // k <= inn.toNat}) (fun ⟨k, hk⟩ => j5 Tryz.f6.ntmps [(5, .ptr 5 0), (7, .ptr 7 0), (8, .row 108), (9, .dat (.i k))] [(5, .box [.dat (.i w), .dat (.i mem), .dat (.i inn), .dat (.seq .inss c)]), (7, .box [.dat (.seq .bytes b), .dat (.i (givI b n k)), .dat (.i (givH b n k))]), (108, .row 3 .ints (o7 w b n k) false)]) (fun ⟨k, hk⟩ => inn.toNat - k) ⟨0, Nat.zero_le _⟩ (SubP.sub (σ := [(5, some 5), (7, some 13000), (108, some 13)]) ⟨⟨rfl, rfl, rfl⟩, ⟨rr, rr, rfl, o0 ?_, trivial⟩, ⟨⟨j0 ?_, j0 ?_, j0 ?_, j0 ?_, trivial⟩, ⟨j0 ?_, j0 ?_, j0 ?_, trivial⟩, ⟨rr, ?_⟩, trivial⟩⟩) (fun ⟨k, hk⟩ => ?_); rotate_right; conv => whnf) | (refine p5 ⟨k + 1, ?_⟩ ?_ (SubP.sub (σ := [(5, some 5), (7, some 7), (108, some 27)]) ⟨⟨rfl, rfl, rfl⟩, ⟨rr, rr, rfl, o0 ?_, trivial⟩, ⟨⟨j0 ?_, j0 ?_, j0 ?_, j0 ?_, trivial⟩, ⟨j0 ?_, j0 ?_, j0 ?_, trivial⟩, ⟨rr, ?_⟩, trivial⟩⟩)) | refine eS (kX (hl := ?_) ..) ⟨?_⟩ | refine vP (yI ..) ⟨?_⟩ | refine gS (lX (hi := ?_) (hl := ?_) ..) ⟨?_⟩ | fail)
  all_goals repeat clear hK K1
  all_goals first | (with_reducible assumption) | exact qd7 hn k | omega | (dsimp only; omega) | (rw [lR]; have hm : maxLen = 9223372036854775807 := rfl; simp; omega) | (show ((o7 w b n k).length + _) * 8 <= _; rw [lR]; simp; omega) | exact congrArg (Dat.int .i64) (j2 omG omG).symm | exact row_fin (by rw [show k = inn.toNat from by omega]) | rfl | skip
theorem qhc (b : List Int) (n w mem inn : Int) (c : List V.Ins) (hn : 0 <= n) (hl : b.length <= maxLen) (h1 : inn <= 1000) : CallsV Tryz.prog 6 [.dat (.seq .bytes b), .dat (.i n), .agg [.dat (.i w), .dat (.i mem), .dat (.i inn), .dat (.seq .inss c)]] (.dat (.seq .ints (o7 w b n inn.toNat))) :=
  (qm7 b n w mem inn c hn hl h1).toV fun res B ⟨h1, h2⟩ => by subst h1 h2; exact rfl
theorem mk1 {a w n size : Int} (ha : 0 <= a /\ a <= 255 /\ ((0 : Int) < 4 -> a < 4)) (hw : inP w 1 16 = true) : r5 ⟨1, a, k9 w n, 0⟩ w size = true := by
  simp [r5, qA, inP, wordOf_word n hw]; omega
theorem mk2 {op a b w size : Int} (ho : op = 2 \/ op = 7 \/ op = 8) (ha : 0 <= a /\ a <= 255 /\ ((0 : Int) < 4 -> a < 4)) (hb : 0 <= b /\ b <= 255 /\ ((0 : Int) < 4 -> b < 4)) : r5 ⟨op, a, b, 0⟩ w size = true := by
  rcases ho with rfl | rfl | rfl <;> simp [r5, qA, inP] <;> omega
theorem mk3 {a b w size x : Int} (ha : 0 <= a /\ a <= 255 /\ ((0 : Int) < 4 -> a < 4)) (hb : 0 <= b /\ b <= 255 /\ ((0 : Int) < 4 -> b < 4)) (hx : x ∈ ([3, 4, 5, 6, 7, 8, 9, 10, 11, 12, 13, 14, 15, 16] : List Int)) : r5 ⟨3, a, b, x⟩ w size = true := by
  have hx' : 3 <= x /\ x <= 16 := by simp at hx; omega
  simp [r5, qA, inP]; omega
theorem mk4 {op a w size : Int} (ho : op = 4 \/ op = 5 \/ op = 6 \/ op = 13) (ha : 0 <= a /\ a <= 255 /\ ((0 : Int) < 4 -> a < 4)) : r5 ⟨op, a, 0, 0⟩ w size = true := by
  rcases ho with rfl | rfl | rfl | rfl <;> simp [r5, qA, inP] <;> omega
theorem mk9 {op x w size : Int} (ho : op = 9 \/ op = 11) (hx : 0 <= x /\ x <= size) : r5 ⟨op, 0, x, 0⟩ w size = true := by
  rcases ho with rfl | rfl <;> simp [r5, inP] <;> omega
theorem mk10 {a x w size : Int} (ha : 0 <= a /\ a <= 255 /\ ((0 : Int) < 4 -> a < 4)) (hx : 0 <= x /\ x <= size) : r5 ⟨10, a, x, 0⟩ w size = true := by
  simp [r5, qA, inP]; omega
theorem qbj {size x : Int} (hs : 0 <= size /\ size <= 100) (hx : 0 <= x /\ x <= 255 /\ (0 < IntKind.i64.wrap (size + 1) -> x < IntKind.i64.wrap (size + 1))) : 0 <= x /\ x <= size := by
  rw [j2 (n := size + 1) omG omG] at hx; omega
theorem mU {size at' x : Int} (hs : 0 <= size /\ size <= 100) (h0 : 0 <= at') (h1 : at' < size) (hx : 0 <= x /\ x <= 255 /\ (0 < IntKind.i64.wrap (size - at') -> x < IntKind.i64.wrap (size - at'))) : 0 <= IntKind.i64.wrap (IntKind.i64.wrap (at' + 1) + x) /\ IntKind.i64.wrap (IntKind.i64.wrap (at' + 1) + x) <= size := by
  rw [j2 (n := size - at') omG omG] at hx
  rw [j2 (n := at' + 1) omG omG, j2 omG omG]; omega
theorem ql4 (b : List Int) (i g w size at' : Int) (hi : 0 <= i) (hl : b.length <= maxLen) (hw : inP w 1 16 = true) (hs : 0 <= size /\ size <= 100) (h0 : 0 <= at') (h1 : at' < size) : CallsG Tryz.prog 58 [.ptr 0 0, .dat (.i w), .dat (.i size), .dat (.i at')] [.box [.dat (.seq .bytes b), .dat (.i i), .dat (.i g)]] 1 (fun res B => ∃ op a c d i' g' : Int, res = .agg [.dat (.i op), .dat (.i a), .dat (.i c), .dat (.i d)] /\ B = [.box [.dat (.seq .bytes b), .dat (.i i'), .dat (.i g')]] /\ r5 ⟨op, a, c, d⟩ w size = true /\ 0 <= i') := by
  refine oG Tryz.func58 ⟨?_⟩
  repeat' (first | ((with_reducible refine fun (K1 : KT) hK => ?_); refine o5 ⟨?_⟩) | ((with_reducible show K1 _ _); subst hK; conv => whnf) | refine st0 ⟨?_⟩ | ((with_reducible refine SplS.mk (fun h => ?_) (fun h => ?_)) <;> first | exact s5 | (subst h; conv => whnf) | (conv => whnf)) | ((with_reducible refine kC (g := 24) ?_); refine ⟨_, _, kR (hi := ?_) (hl := asmR) .., fun res B hRB => ?_⟩; rotate_right; obtain ⟨x, i', g', rfl, rfl, hx, hi'⟩ := hRB; conv => whnf) | ((with_reducible refine kC (g := 23) ?_); refine ⟨_, _, iW (hi := ?_) (hl := asmR) .., fun res B hRB => ?_⟩; rotate_right; obtain ⟨x, i', g', rfl, rfl, hi'⟩ := hRB; conv => whnf) | refine vP (yI ..) ⟨?_⟩ | ((with_reducible refine kC (g := 99) ?_); refine ⟨_, _, ql6 (hi := ?_) (hl := asmR) (h1 := ?_) .., fun res B hRB => ?_⟩; rotate_right; obtain ⟨x, i', g', rfl, rfl, hm, hi'⟩ := hRB; conv => whnf))
  all_goals repeat clear hK K1
  all_goals first | (with_reducible assumption) | (refine ⟨_, _, _, _, _, _, rfl, rfl, ?_, by with_reducible assumption⟩; first | exact mk1 asmR hw | exact mk2 (by decide) asmR asmR | exact mk3 asmR asmR asmR | exact mk4 (by decide) asmR | exact mk9 (by decide) (qbj hs asmR) | exact mk9 (by decide) (mU hs h0 h1 asmR) | exact mk10 asmR (qbj hs asmR) | exact mk10 asmR (mU hs h0 h1 asmR) | rfl) | exact Nat.succ_pos _ | skip
structure DrawI (w mem inn size i : Int) (code : List V.Ins) : Prop where
  hw : 2 <= w /\ w <= 3
  hm : 1 <= mem /\ mem <= 3
  hn : 0 <= inn /\ inn <= 2
  hs : inn + 2 <= size /\ size <= inn + 14
  hi : 0 <= i
  hc : (code.length : Int) <= size
  ha : ∀ x ∈ code, r5 x w size = true
theorem drawI_w {w mem inn size i : Int} {code : List V.Ins} (h : DrawI w mem inn size i code) : inP w 1 16 = true := by
  have := h.hw; simp [inP]; omega
theorem drawI_0 {x1 x2 x3 x4 i : Int} (h1 : 0 <= x1 /\ x1 <= 255 /\ ((0 : Int) < 2 -> x1 < 2)) (h2 : 0 <= x2 /\ x2 <= 255 /\ ((0 : Int) < 3 -> x2 < 3)) (h3 : 0 <= x3 /\ x3 <= 255 /\ ((0 : Int) < 3 -> x3 < 3)) (h4 : 0 <= x4 /\ x4 <= 255 /\ ((0 : Int) < 10 -> x4 < 10)) (hi : 0 <= i) :
    DrawI (IntKind.i64.wrap (2 + x1)) (IntKind.i64.wrap (1 + x2)) x3 (IntKind.i64.wrap (IntKind.i64.wrap (x3 + 2) + x4)) i [] := by
  rw [j2 (n := 2 + x1) omG omG, j2 (n := 1 + x2) omG omG, j2 (n := x3 + 2) omG omG, j2 (n := x3 + 2 + x4) omG omG]
  exact ⟨by omega, by omega, by omega, by omega, hi, by simp; omega, fun x hx => by simp at hx⟩
theorem qe8 {w mem inn size i i' : Int} {code : List V.Ins} {y : V.Ins} (h : DrawI w mem inn size i code) (hk : (code.length : Int) < size) (hy : r5 y w size = true) (hi : 0 <= i') : DrawI w mem inn size i' (code ++ [y]) :=
  ⟨h.hw, h.hm, h.hn, h.hs, hi, by simp; omega, fun x hx => by
    rcases List.mem_append.1 hx with hx | hx
    . exact h.ha x hx
    . rw [List.mem_singleton] at hx; subst hx; exact hy⟩
theorem qmp {w mem inn size i : Int} {code : List V.Ins} (h : DrawI w mem inn size i code) (hk : (code.length : Int) < inn) : r5 ⟨5, code.length, 0, 0⟩ w size = true := by
  have := h.hn; simp [r5, qA, inP]; omega
theorem qmq {w mem inn size i : Int} {code : List V.Ins} (h : DrawI w mem inn size i code) (hk : ¬ (code.length : Int) < size) : f4 ⟨w, mem, inn, code⟩ = true := by
  obtain ⟨hw, hm, hn, hs, _, hc, ha⟩ := h
  have e : (code.length : Int) = size := by omega
  simp only [f4, Bool.and_eq_true, inP, decide_eq_true_eq, wordP, List.all_eq_true]
  refine ⟨⟨⟨⟨⟨⟨by omega, by omega⟩, ⟨by omega, by omega⟩⟩, ⟨⟨by omega, by omega⟩, by omega, ?_⟩⟩, by omega, by omega⟩, by omega, by omega⟩, fun x hx => by rw [e]; exact ha x hx⟩
  have hw' : w = 2 \/ w = 3 := by omega
  rcases hw' with rfl | rfl
  . show mem <= 3; omega
  . show mem <= 7; omega
theorem qht {code : List V.Ins} {y : V.Ins} {size : Int} (hk : (code.length : Int) < size) (hs : size <= 100) : Dat.int .i64 (IntKind.i64.wrap ((code.length : Int) + 1)) = Dat.i ((code ++ [y]).length : Nat) := by
  rw [j2 omG omG]; simp
theorem drawI_s {w mem inn size i : Int} {code : List V.Ins} (h : DrawI w mem inn size i code) : size <= 100 := by
  have := h.hs; have := h.hn; omega
theorem ql5 (b : List Int) (i g : Int) (hi : 0 <= i) (hl : b.length <= maxLen) : CallsG Tryz.prog 22 [.ptr 0 0, .dat (.i 10)] [.box [.dat (.seq .bytes b), .dat (.i i), .dat (.i g)]] 1 (fun res B => ∃ (w mem inn i' g' : Int) (code : List V.Ins), res = .agg [.dat (.i w), .dat (.i mem), .dat (.i inn), .row 1] /\ B = [.box [.dat (.seq .bytes b), .dat (.i i'), .dat (.i g')], .row 57 .inss code false] /\ f4 ⟨w, mem, inn, code⟩ = true /\ 0 <= i') := by
  refine oG Tryz.func22 ⟨?_⟩
  repeat' (first | ((with_reducible refine Alt.r ?_); conv => whnf) | ((with_reducible refine fun (K1 : KT) hK => ?_); refine o5 ⟨?_⟩) | ((with_reducible show K1 _ _); subst hK; conv => whnf) | (with_reducible exact rfl) | refine st0 ⟨?_⟩ | ((with_reducible refine SplS.mk (fun h => ?_) (fun h => ?_)) <;> first | exact s5 | (subst h; conv => whnf) | (conv => whnf)) | refine s1 ⟨?_⟩ ⟨?_⟩ | (refine l5 ({x : (Int × Int × Int) × (Int × Int × Int) × List V.Ins // DrawI x.1.1 x.1.2.1 x.1.2.2 x.2.1.1 x.2.1.2.1 x.2.2}) (fun ⟨⟨⟨w, mem, inn⟩, ⟨size, i, g⟩, code⟩, hI⟩ => j5 Tryz.f22.ntmps [(0, .ptr 900000 0), (4, .ptr 4 0), (5, .ptr 5 0), (6, .dat (.i size)), (7, .dat (.i code.length))] [(900000, .box [.dat (.seq .bytes b), .dat (.i i), .dat (.i g)]), (4, .box [.cell, .cell, .cell, .cell]), (5, .box [.dat (.i w), .dat (.i mem), .dat (.i inn), .row 107]), (107, .row 57 .inss code false)]) (fun ⟨⟨⟨w, mem, inn⟩, ⟨size, i, g⟩, code⟩, hI⟩ => (size.toNat - code.length)) ⟨⟨⟨?_, ?_, ?_⟩, ⟨?_, ?_, ?_⟩, []⟩, ?_⟩ (SubP.sub (σ := [(900000, some 900000), (4, some 4), (5, some 5), (107, none)]) ⟨⟨rfl, rfl, rfl⟩, ⟨rr, rr, rr, o0 ?_, o0 ?_, trivial⟩, ⟨⟨j0 ?_, j0 ?_, j0 ?_, trivial⟩, ⟨rfl, rfl, rfl, rfl, trivial⟩, ⟨j0 ?_, j0 ?_, j0 ?_, rfl, trivial⟩, ?_, trivial⟩⟩) (fun ⟨⟨⟨w, mem, inn⟩, ⟨size, i, g⟩, code⟩, hI⟩ => ?_); rotate_right; conv => whnf) | (refine p5 ⟨⟨⟨w, mem, inn⟩, ⟨size, ?_, ?_⟩, ?_⟩, ?_⟩ ?_ (SubP.sub (σ := [(900000, some 900000), (4, some 4), (5, some 5), (107, some 43)]) ⟨⟨rfl, rfl, rfl⟩, ⟨rr, rr, rr, o0 ?_, o0 ?_, trivial⟩, ⟨⟨j0 ?_, j0 ?_, j0 ?_, trivial⟩, ⟨rfl, rfl, rfl, rfl, trivial⟩, ⟨j0 ?_, j0 ?_, j0 ?_, rfl, trivial⟩, ⟨rr, ?_⟩, trivial⟩⟩)) | (refine p5 ⟨⟨⟨w, mem, inn⟩, ⟨size, ?_, ?_⟩, ?_⟩, ?_⟩ ?_ (SubP.sub (σ := [(900000, some 900000), (4, some 4), (5, some 5), (107, some 54)]) ⟨⟨rfl, rfl, rfl⟩, ⟨rr, rr, rr, o0 ?_, o0 ?_, trivial⟩, ⟨⟨j0 ?_, j0 ?_, j0 ?_, trivial⟩, ⟨rfl, rfl, rfl, rfl, trivial⟩, ⟨j0 ?_, j0 ?_, j0 ?_, rfl, trivial⟩, ⟨rr, ?_⟩, trivial⟩⟩)) | ((with_reducible refine kC (g := 24) ?_); refine ⟨_, _, kR (hi := ?_) (hl := asmR) .., fun res B hRB => ?_⟩; rotate_right; obtain ⟨x, i', g', rfl, rfl, hx, hi'⟩ := hRB; conv => whnf) | ((with_reducible refine kC (g := 23) ?_); refine ⟨_, _, iW (hi := ?_) (hl := asmR) .., fun res B hRB => ?_⟩; rotate_right; obtain ⟨x, i', g', rfl, rfl, hi'⟩ := hRB; conv => whnf) | ((with_reducible refine kC (g := 58) ?_); refine ⟨_, _, ql4 (hi := ?_) (hl := asmR) (hw := ?_) (hs := ?_) (h0 := ?_) (h1 := ?_) .., fun res B hRB => ?_⟩; rotate_right; obtain ⟨op, a, c, d, i', g', rfl, rfl, hp, hi'⟩ := hRB; conv => whnf))
  all_goals repeat clear hK K1
  all_goals first | (with_reducible assumption) | exact hI.hi | exact drawI_w hI | exact qe8 hI asmR (qmp hI asmR) asmR | exact qe8 hI asmR asmR asmR | exact drawI_0 asmR asmR asmR asmR asmR | exact (qht asmR (drawI_s hI)).symm | exact (rfl : Dat.i ((([] : List V.Ins).length : Nat) : Int) = Dat.int .i64 0) | exact ⟨_, _, _, _, _, _, rfl, rfl, qmq hI asmR, hI.hi⟩ | (show size.toNat - (code ++ [_]).length < size.toNat - code.length; simp; omega) | (show (code.length + 1) * 32 <= 140737488355328; have q1 := hI.hs; have q2 := hI.hn; have q3 := hI.hc; simp only at q1 q2 q3; omega) | (show code.length + 1 <= maxLen; have q1 := hI.hs; have q2 := hI.hn; have q3 := hI.hc; have hm : maxLen = 9223372036854775807 := rfl; simp only at q1 q2 q3; omega) | (have q1 := hI.hs; have q2 := hI.hn; simp only at q1 q2; omega) | (show ([] : List V.Ins).length = 0; rfl) | skip
structure GivI (w mem inn i : Int) (code : List V.Ins) (k : Int) : Prop where
  hp : f4 ⟨w, mem, inn, code⟩ = true
  hi : 0 <= i
  hk : 0 <= k
theorem mR {w mem inn i k : Int} {code : List V.Ins} (h : GivI w mem inn i code k) : code.length <= 40 := prog_c h.hp
theorem givI_st {w mem inn i : Int} {code : List V.Ins} (hp : f4 ⟨w, mem, inn, code⟩ = true) (hi : 0 <= i) : GivI w mem inn i code inn := ⟨hp, hi, (jU hp).1⟩
theorem qjk {w mem inn : Int} {code : List V.Ins} {y : V.Ins} (k : Nat) (hp : f4 ⟨w, mem, inn, code⟩ = true) (hy : r5 y w code.length = true) : f4 ⟨w, mem, inn, code.set k y⟩ = true := by
  simp only [f4, Bool.and_eq_true, List.all_eq_true, List.length_set] at hp ⊢
  refine ⟨hp.1, fun x hx => ?_⟩
  rcases List.mem_or_eq_of_mem_set hx with h | h
  . exact hp.2 x h
  . subst h; exact hy
theorem ql7 {w mem inn i i' k : Int} {code : List V.Ins} (h : GivI w mem inn i code k) (hi : 0 <= i') (hk : k < code.length) : GivI w mem inn i' code (IntKind.i64.wrap (k + 1)) := by
  have h1 := h.hk; have h2 := mR h
  exact ⟨h.hp, hi, by rw [j2 omG omG]; omega⟩
theorem ql8 {w mem inn i i' k a x : Int} {code : List V.Ins} (h : GivI w mem inn i code k) (hi : 0 <= i') (hk : k < code.length) (ha : 0 <= a /\ a <= 255 /\ ((0 : Int) < 3 -> a < 3))
    (hx : 0 <= x /\ x <= 255 /\ (0 < IntKind.i64.wrap ((code.length : Int) - k) -> x < IntKind.i64.wrap ((code.length : Int) - k))) :
    GivI w mem inn i' (code.set k.toNat ⟨10, a, IntKind.i64.wrap (IntKind.i64.wrap (k + 1) + x), 0⟩) (IntKind.i64.wrap (k + 1)) := by
  have h1 := h.hk; have h2 := mR h
  refine ⟨qjk _ h.hp (mk10 omG (mU omG h1 hk hx)), hi, by rw [j2 omG omG]; omega⟩
theorem qd5 {code : List V.Ins} {k : Int} (h0 : 0 <= k) (hl : code.length <= 40) (hk : k < code.length) : ((code.length : Int) - IntKind.i64.wrap (k + 1)).toNat < ((code.length : Int) - k).toNat := by
  rw [j2 omG omG]; omega
theorem giv_mu1 {code : List V.Ins} {y : V.Ins} {k : Int} (h0 : 0 <= k) (hl : code.length <= 40) (hk : k < code.length) : (((code.set k.toNat y).length : Int) - IntKind.i64.wrap (k + 1)).toNat < ((code.length : Int) - k).toNat := by
  rw [List.length_set]; exact qd5 h0 hl hk
theorem qm5 (b : List Int) (n : Int) (hn : 0 <= n) (hl : b.length <= maxLen) : CallsF Tryz.prog 5 [.dat (.seq .bytes b), .dat (.i n)] true (fun res B => ∃ (w mem inn : Int) (code : List V.Ins), res = .agg [.dat (.i w), .dat (.i mem), .dat (.i inn), .row 0] /\ B = [.row 57 .inss code false] /\ f4 ⟨w, mem, inn, code⟩ = true) := by
  refine oF Tryz.func5 ⟨?_⟩
  repeat' (first | ((with_reducible refine Alt.r ?_); conv => whnf) | ((with_reducible refine fun (K1 : KT) hK => ?_); refine o5 ⟨?_⟩) | ((with_reducible show K1 _ _); subst hK; conv => whnf) | (with_reducible exact rfl) | refine st0 ⟨?_⟩ | ((with_reducible refine SplS.mk (fun h => ?_) (fun h => ?_)) <;> first | exact s5 | (subst h; conv => whnf) | (conv => whnf)) | refine s1 ⟨?_⟩ ⟨?_⟩ | (refine l5 ({x : (Int × Int × Int) × (Int × Int × Int) × List V.Ins // GivI x.1.1 x.1.2.1 x.1.2.2 x.2.1.1 x.2.2 x.2.1.2.2}) (fun ⟨⟨⟨w, mem, inn⟩, ⟨i, g, k⟩, code⟩, hI⟩ => j5 Tryz.f5.ntmps [(4, .ptr 4 0), (5, .ptr 105 0), (6, .ptr 6 0), (7, .dat (.i k))] [(105, .box [.dat (.seq .bytes b), .dat (.i i), .dat (.i g)]), (4, .box [.cell, .cell, .cell, .cell]), (6, .box [.dat (.i w), .dat (.i mem), .dat (.i inn), .row 107]), (107, .row 57 .inss code false)]) (fun ⟨⟨⟨w, mem, inn⟩, ⟨i, g, k⟩, code⟩, hI⟩ => (code.length - k).toNat) ⟨⟨⟨?_, ?_, ?_⟩, ⟨?_, ?_, ?_⟩, ?_⟩, ?_⟩ (SubP.sub (σ := [(105, some 11000), (4, some 4), (6, some 6), (107, some 13001)]) ⟨⟨rfl, rfl, rfl⟩, ⟨rr, rr, rr, o0 ?_, trivial⟩, ⟨⟨j0 ?_, j0 ?_, j0 ?_, trivial⟩, ⟨rfl, rfl, rfl, rfl, trivial⟩, ⟨j0 ?_, j0 ?_, j0 ?_, rfl, trivial⟩, ⟨rr, ?_⟩, trivial⟩⟩) (fun ⟨⟨⟨w, mem, inn⟩, ⟨i, g, k⟩, code⟩, hI⟩ => ?_); rotate_right; conv => whnf) | (refine p5 ⟨⟨⟨w, mem, inn⟩, ⟨?_, ?_, ?_⟩, ?_⟩, ?_⟩ ?_ (SubP.sub (σ := [(105, some 105), (4, some 4), (6, some 6), (107, some 107)]) ⟨⟨rfl, rfl, rfl⟩, ⟨rr, rr, rr, o0 ?_, trivial⟩, ⟨⟨j0 ?_, j0 ?_, j0 ?_, trivial⟩, ⟨rfl, rfl, rfl, rfl, trivial⟩, ⟨j0 ?_, j0 ?_, j0 ?_, rfl, trivial⟩, ⟨rr, ?_⟩, trivial⟩⟩)) | refine eS (kX (hl := ?_) ..) ⟨?_⟩ | ((with_reducible refine kC (g := 22) ?_); refine ⟨_, _, ql5 (hi := ?_) (hl := asmR) .., fun res B hRB => ?_⟩; rotate_right; obtain ⟨w, mem, inn, i', g', code, rfl, rfl, hp, hi'⟩ := hRB; conv => whnf) | ((with_reducible refine kC (g := 23) ?_); refine ⟨_, _, iW (hi := ?_) (hl := asmR) .., fun res B hRB => ?_⟩; rotate_right; obtain ⟨x, i', g', rfl, rfl, hi'⟩ := hRB; conv => whnf) | ((with_reducible refine kC (g := 24) ?_); refine ⟨_, _, kR (hi := ?_) (hl := asmR) .., fun res B hRB => ?_⟩; rotate_right; obtain ⟨x, i', g', rfl, rfl, hx, hi'⟩ := hRB; conv => whnf) | (intro h; conv => whnf))
  all_goals repeat clear hK K1
  all_goals first | (with_reducible assumption) | exact bS hn | exact hI.hi | exact givI_st asmR asmR | exact ql7 hI asmR asmR | exact ql8 hI asmR asmR asmR asmR | exact hI.hk | exact ⟨_, _, _, _, rfl, rfl, hI.hp⟩ | exact giv_mu1 hI.hk (mR hI) asmR | (have q : 0 <= k := hI.hk; have q2 : k < code.length := asmR; omega) | exact qd5 hI.hk (mR hI) asmR | skip
theorem qm4 (b : List Int) (n : Int) (hn : 0 <= n) (hl : b.length <= maxLen) : CallsF Tryz.prog 5 [.dat (.seq .bytes b), .dat (.i n)] true (fun res B => (∃ (w mem inn : Int) (code : List V.Ins), res = .agg [.dat (.i w), .dat (.i mem), .dat (.i inn), .dat (.seq .inss code)] /\ f4 ⟨w, mem, inn, code⟩ = true) /\ B = []) :=
  (qm5 b n hn hl).toE (Q := fun res => ∃ (w mem inn : Int) (code : List V.Ins), res = .agg [.dat (.i w), .dat (.i mem), .dat (.i inn), .dat (.seq .inss code)] /\ f4 ⟨w, mem, inn, code⟩ = true) fun res B' ⟨w, mem, inn, code, h1, h2, h3⟩ => ⟨_, ⟨w, mem, inn, code, rfl, h3⟩, by subst h1 h2; exact ⟨rfl, rfl, rfl, rfl, trivial⟩⟩
end Vg
