/- The cursor that draws numbers out of bytes: contracts. Condition: the place in the bytes is not negative. -/
import Derived.Test.YtfhkodimclmcdaaGreatDoorBase
import Derived.Test.YtfhkodimclmcdaaGreatDoorRet
import Derived.Test.YtfhkodimclmcdaaGreatDoorRedQ
import Derived.Test.YtfhkodimclmcdaaGreatDoorSess
namespace Vg
open Go Go.Proofs
set_option maxRecDepth 100000
set_option maxHeartbeats 40000000
def pE (a b : Int) : Int := IntKind.i64.wrap (BitVec.ofInt IntKind.i64.bits a &&& BitVec.ofInt IntKind.i64.bits b).toNat
def lT (a b : Int) : Int := IntKind.i64.wrap (BitVec.ofInt IntKind.i64.bits a ^^^ BitVec.ofInt IntKind.i64.bits b).toNat
theorem and_low (a : Int) {m : Nat} (hm : m < 9223372036854775808) : 0 <= pE a m /\ pE a m <= m := by
  have h : (BitVec.ofInt IntKind.i64.bits a &&& BitVec.ofInt IntKind.i64.bits (m : Int)).toNat <= m := by
    rw [BitVec.toNat_and]
    refine Nat.le_trans Nat.and_le_right ?_
    rw [BitVec.toNat_ofInt]
    have : (IntKind.i64.bits) = 64 := rfl
    rw [this];omega
  unfold pE
  rw [j3 omG omG];omega
theorem qhg (a : Int) : 0 <= pE a 255 /\ pE a 255 <= 255 := and_low a (m := 255) (by decide)
def sG (h : Int) : Int := IntKind.i64.wrap (IntKind.i64.wrap (h * 6364136223846793005) + 1442695040888963407)
def rG (b : List Int) (i : Int) : Int := if i < b.length then i + 1 else i
def kM (h : Int) : Int := pE (lT ((sG h).fdiv (2 ^ (min (33 : Int).toNat IntKind.i64.bits))) ((sG h).fdiv (2 ^ (min (45 : Int).toNat IntKind.i64.bits)))) 255
def xC (b : List Int) (i h : Int) : Int := if i < b.length then pE (IntKind.i64.wrap (kM h + IntKind.i64.wrap (b.getD i.toNat 0))) 255 else kM h
theorem curX_y {b : List Int} {i h : Int} (hi : i < b.length) : xC b i h = pE (IntKind.i64.wrap (kM h + IntKind.i64.wrap (b.getD i.toNat 0))) 255 := if_pos hi
theorem curX_n {b : List Int} {i h : Int} (hi : ¬ i < b.length) : xC b i h = kM h := if_neg hi
theorem curI_y {b : List Int} {i : Int} (h0 : 0 <= i) (hi : i < b.length) (hl : b.length <= maxLen) : rG b i = IntKind.i64.wrap (i + 1) := by
  have hm : maxLen = 9223372036854775807 := rfl
  rw [rG,if_pos hi,j3 omG omG]
theorem curI_n {b : List Int} {i : Int} (hi : ¬ i < b.length) : rG b i = i := if_neg hi
theorem qf3 {b : List Int} {i : Int} (h : 0 <= i) : 0 <= rG b i := by unfold rG;split <;> omega
theorem aY (b : List Int) (i h : Int) : 0 <= xC b i h /\ xC b i h <= 255 := by
  unfold xC;split
  . exact qhg _
  . exact qhg _
theorem fY {i i' h h' : Int} {s : Dat} (h2 : i = i') (h3 : h = h') : [Blk.box [.dat s,.dat (.i i),.dat (.i h)]] = [Blk.box [.dat s,.dat (.i i'),.dat (.i h')]] := by rw [h2,h3]
theorem pV {x x' : Int} (h : x = x') : AV.dat (.int .i64 x) = AV.dat (.i x') := by rw [h]
theorem qgr (b : List Int) (i g : Int) (hi : 0 <= i) (hl : b.length <= maxLen) : CallsG Tryz.prog 48 [.ptr 0 0] [.box [.dat (.seq .bytes b),.dat (.i i),.dat (.i g)]] 1 (fun res B=>res = .dat (.i (xC b i g)) /\ B = [.box [.dat (.seq .bytes b),.dat (.i (rG b i)),.dat (.i (sG g))]]) := by
  refine oG Tryz.func48 ⟨?_⟩
  repeat' (first|((with_reducible refine fun (K1 : KT) hK=>?_);refine w5 ⟨?_⟩)|((with_reducible show K1 _ _);subst hK;conv=>whnf)|refine st0 ⟨?_⟩|((with_reducible refine SplS.mk (fun h=>?_) (fun h=>?_)) <;> first|exact o4|(subst h;conv=>whnf)|(conv=>whnf))|refine f2 ⟨?_⟩ ⟨?_⟩|fail)
  all_goals repeat clear hK K1
  all_goals first|(with_reducible assumption)|((with_reducible refine pV ?_);first|(rw [curX_y asmR];unfold kM pE lT sG;rfl)|(rw [curX_n asmR];unfold kM pE lT sG;rfl))|((with_reducible refine fY ?_ ?_) <;> first|(with_reducible exact (curI_y hi (by assumption) hl).symm)|(with_reducible exact (curI_n (by assumption)).symm)|(unfold sG;rfl))|decide
def tI (b : List Int) (i h n : Int) : Int := if n <= 0 then 0 else (xC b i h).tmod n
def pM (b : List Int) (i n : Int) : Int := if n <= 0 then i else rG b i
def belH (h n : Int) : Int := if n <= 0 then h else sG h
theorem qgy {b : List Int} {i n : Int} (h : 0 <= i) : 0 <= pM b i n := by unfold pM;split;exact h;exact qf3 h
theorem belX_r (b : List Int) (i h n : Int) : 0 <= tI b i h n /\ tI b i h n <= 255 /\ (0 < n -> tI b i h n < n) := by
  have h1 := aY b i h
  unfold tI;split
  . omega
  . have h2 := Int.tmod_nonneg n h1.1
    have h3 := Int.tmod_lt_of_pos (xC b i h) (show 0 < n by omega)
    refine ⟨h2, ?_,fun _=>h3⟩
    have h4 : (xC b i h).tmod n <= xC b i h := by
      rw [Int.tmod_eq_emod_of_nonneg h1.1]
      have e := Int.emod_add_mul_ediv (xC b i h) n
      have q := Int.mul_nonneg (show 0 <= n by omega) (Int.ediv_nonneg h1.1 (show 0 <= n by omega))
      omega
    omega
theorem belX_y {b : List Int} {i h n : Int} (hn : n <= 0) : tI b i h n = 0 := if_pos hn
theorem belX_n {b : List Int} {i h n : Int} (hn : ¬ n <= 0) : tI b i h n = (xC b i h).tmod n := if_neg hn
theorem belI_y {b : List Int} {i n : Int} (hn : n <= 0) : pM b i n = i := if_pos hn
theorem belI_n {b : List Int} {i n : Int} (hn : ¬ n <= 0) : pM b i n = rG b i := if_neg hn
theorem belH_y {h n : Int} (hn : n <= 0) : belH h n = h := if_pos hn
theorem belH_n {h n : Int} (hn : ¬ n <= 0) : belH h n = sG h := if_neg hn
theorem qgs (b : List Int) (i g n : Int) (hi : 0 <= i) (hl : b.length <= maxLen) : CallsG Tryz.prog 21 [.ptr 0 0,.dat (.i n)] [.box [.dat (.seq .bytes b),.dat (.i i),.dat (.i g)]] 1 (fun res B=>res = .dat (.i (tI b i g n)) /\ B = [.box [.dat (.seq .bytes b),.dat (.i (pM b i n)),.dat (.i (belH g n))]]) := by
  refine oG Tryz.func21 ⟨?_⟩
  repeat' (first|((with_reducible refine fun (K1 : KT) hK=>?_);refine w5 ⟨?_⟩)|((with_reducible show K1 _ _);subst hK;conv=>whnf)|refine st0 ⟨?_⟩|((with_reducible refine SplS.mk (fun h=>?_) (fun h=>?_)) <;> first|exact o4|(subst h;conv=>whnf)|(conv=>whnf))|refine f2 ⟨?_⟩ ⟨?_⟩|refine gS (qgr (hi := ?_) (hl := ?_) ..) ⟨?_⟩|(intro h;conv=>whnf))
  all_goals repeat clear hK K1
  all_goals first|(with_reducible assumption)|exact pV (belX_y (by assumption)).symm|exact pV (belX_n (by assumption)).symm|exact fY (belI_y (by assumption)).symm (belH_y (by assumption)).symm|exact fY (belI_n (by assumption)).symm (belH_n (by assumption)).symm|omega|skip
theorem qn6 (b : List Int) (i g n : Int) (hi : 0 <= i) (hl : b.length <= maxLen) : CallsG Tryz.prog 20 [.ptr 0 0,.dat (.i n)] [.box [.dat (.seq .bytes b),.dat (.i i),.dat (.i g)]] 1 (fun res B=>res = .dat (.bool (decide (tI b i g n = 0))) /\ B = [.box [.dat (.seq .bytes b),.dat (.i (pM b i n)),.dat (.i (belH g n))]]) := by
  refine oG Tryz.func20 ⟨?_⟩
  repeat' (first|((with_reducible refine fun (K1 : KT) hK=>?_);refine w5 ⟨?_⟩)|((with_reducible show K1 _ _);subst hK;conv=>whnf)|refine f2 ⟨?_⟩ ⟨?_⟩|refine gS (qgs (hi := ?_) (hl := ?_) ..) ⟨?_⟩|fail)
  all_goals repeat clear hK K1
  all_goals first|(with_reducible assumption)|rfl|omega|skip
def hash0 (b : List Int) : Int := IntKind.i64.wrap (55127 + b.length)
def xR (b : List Int) : Nat -> Int
  | 0=>hash0 b
  | k + 1=>pE (IntKind.i64.wrap (IntKind.i64.wrap (IntKind.i64.wrap (xR b k * 131) + IntKind.i64.wrap (b.getD k 0)) + 7)) 1073741823
def qF (b : List Int) : Nat := min b.length 4000
theorem qm6 {b : List Int} {k : Nat} (hk : k <= qF b) (h : ¬ (k : Int) < b.length) : k = qF b := by unfold qF at *;omega
theorem qm5 {b : List Int} {k : Nat} (hk : k <= qF b) (h : ¬ (k : Int) < 4000) : k = qF b := by unfold qF at *;omega
theorem hash_lt {b : List Int} {k : Nat} (h1 : (k : Int) < b.length) (h2 : (k : Int) < 4000) : k + 1 <= qF b := by unfold qF;omega
theorem qn7 (b : List Int) (_hl : b.length <= maxLen) : CallsF Tryz.prog 46 [.dat (.seq .bytes b)] false (fun res B=>res = .ptr 0 0 /\ B = [.box [.dat (.seq .bytes b),.dat (.i 0),.dat (.i (xR b (qF b)))]]) := by
  refine oF Tryz.func46 ⟨?_⟩
  repeat' (first|((with_reducible refine fun (K1 : KT) hK=>?_);refine w5 ⟨?_⟩)|((with_reducible show K1 _ _);subst hK;conv=>whnf)|(with_reducible exact rfl)|refine st0 ⟨?_⟩|((with_reducible refine SplS.mk (fun h=>?_) (fun h=>?_)) <;> first|exact o4|(subst h;conv=>whnf)|(conv=>whnf))|refine f2 ⟨?_⟩ ⟨?_⟩|(refine y5 ({k : Nat // k <= qF b}) (fun ⟨k,hk⟩=>x5 Tryz.f46.ntmps [(0,.dat (.seq .bytes b)),(3,.dat (.i (xR b k))),(4,.dat (.i k))] []) (fun ⟨k,hk⟩=>b.length - k) ⟨0,Nat.zero_le _⟩ (SubP.sub (σ := []) ⟨⟨rfl,rfl,rfl⟩,⟨o0 ?_,o0 ?_,o0 ?_,trivial⟩,trivial⟩) (fun ⟨k,hk⟩=>?_);rotate_right;conv=>whnf)|(refine b6 ⟨k + 1, ?_⟩ ?_ (SubP.sub (σ := []) ⟨⟨rfl,rfl,rfl⟩,⟨o0 ?_,o0 ?_,o0 ?_,trivial⟩,trivial⟩))|(intro h;conv=>whnf))
  all_goals repeat clear hK K1
  all_goals first|(with_reducible assumption)|exact hash_lt (by assumption) (by assumption)|omega|(dsimp only;omega)|exact congrArg (Dat.int .i64) (j3 omG omG).symm|(have e := qm6 hk (by assumption);rw [<- e];rfl)|(have e := qm5 hk (by assumption);rw [<- e];rfl)|rfl|skip
def atI (b : List Int) (n : Int) : Int := if (b.length : Int) < n then b.length else n
def atH (b : List Int) (n : Int) : Int := pE (IntKind.i64.wrap (IntKind.i64.wrap (IntKind.i64.wrap (xR b (qF b) * 31) + IntKind.i64.wrap (n * 7919)) + 1)) 1073741823
theorem mY {b : List Int} {n : Int} (h : 0 <= n) : 0 <= atI b n := by unfold atI;split <;> omega
theorem qgq (b : List Int) (n : Int) (hl : b.length <= maxLen) : CallsF Tryz.prog 18 [.dat (.seq .bytes b),.dat (.i n)] false (fun res B=>res = .ptr 0 0 /\ B = [.box [.dat (.seq .bytes b),.dat (.i (atI b n)),.dat (.i (atH b n))]]) := by
  refine oF Tryz.func18 ⟨?_⟩
  repeat' (first|((with_reducible refine fun (K1 : KT) hK=>?_);refine w5 ⟨?_⟩)|((with_reducible show K1 _ _);subst hK;conv=>whnf)|refine st0 ⟨?_⟩|refine f2 ⟨?_⟩ ⟨?_⟩|refine eS (qn7 (_hl := ?_) ..) ⟨?_⟩|(intro h;conv=>whnf))
  all_goals repeat clear hK K1
  all_goals first|(with_reducible assumption)|rfl|omega|skip
def lJ (b : List Int) (n : Int) : Int := IntKind.i64.wrap (IntKind.i64.wrap (256 * xC b (atI b n) (atH b n)) + xC b (rG b (atI b n)) (sG (atH b n)))
theorem numX_r (b : List Int) (n : Int) : 0 <= lJ b n /\ lJ b n <= 65535 := by
  have h1 := aY b (atI b n) (atH b n)
  have h2 := aY b (rG b (atI b n)) (sG (atH b n))
  unfold lJ
  rw [j3 (n := 256 * _) omG omG,j3 omG omG];omega
theorem qoc (b : List Int) (n : Int) (hn : 0 <= n) (hl : b.length <= maxLen) : CallsV Tryz.prog 22 [.dat (.seq .bytes b),.dat (.i n)] (.dat (.i (lJ b n))) := by
  refine oV Tryz.func22 ⟨?_⟩
  repeat' (first|((with_reducible refine fun (K1 : KT) hK=>?_);refine w5 ⟨?_⟩)|((with_reducible show K1 _ _);subst hK;conv=>whnf)|refine st0 ⟨?_⟩|refine eS (qgq (hl := ?_) ..) ⟨?_⟩|refine gS (qgr (hi := ?_) (hl := ?_) ..) ⟨?_⟩|fail)
  all_goals repeat clear hK K1
  all_goals first|(with_reducible assumption)|rfl|exact mY hn|exact qf3 (mY hn)|omega|skip
def qK (b : List Int) (n lo hi : Int) : Int := lo + (lJ b n).tmod (hi - lo + 1)
theorem qa3 (b : List Int) (n : Int) {lo hi : Int} (h : lo <= hi) : lo <= qK b n lo hi /\ qK b n lo hi <= hi := by
  have h1 := numX_r b n
  have h2 := Int.tmod_nonneg (hi - lo + 1) h1.1
  have h3 := Int.tmod_lt_of_pos (lJ b n) (show 0 < hi - lo + 1 by omega)
  unfold qK;omega
theorem yR (b : List Int) (i g n : Int) (hi : 0 <= i) (hl : b.length <= maxLen) : CallsG Tryz.prog 21 [.ptr 0 0,.dat (.i n)] [.box [.dat (.seq .bytes b),.dat (.i i),.dat (.i g)]] 1
    (fun res B=>∃ x i' g' : Int,res = .dat (.i x) /\ B = [.box [.dat (.seq .bytes b),.dat (.i i'),.dat (.i g')]] /\ (0 <= x /\ x <= 255 /\ (0 < n -> x < n)) /\ 0 <= i') :=
  (qgs b i g n hi hl).mono fun _ _ ⟨h1,h2⟩=>⟨_,_,_,h1,h2,belX_r ..,qgy hi⟩
theorem zW (b : List Int) (i g n : Int) (hi : 0 <= i) (hl : b.length <= maxLen) : CallsG Tryz.prog 20 [.ptr 0 0,.dat (.i n)] [.box [.dat (.seq .bytes b),.dat (.i i),.dat (.i g)]] 1
    (fun res B=>∃ (x : Bool) (i' g' : Int),res = .dat (.bool x) /\ B = [.box [.dat (.seq .bytes b),.dat (.i i'),.dat (.i g')]] /\ 0 <= i') :=
  (qn6 b i g n hi hl).mono fun _ _ ⟨h1,h2⟩=>⟨_,_,_,h1,h2,qgy hi⟩
theorem prog_c {w mem inn : Int} {c : List V.Ins} (h : i4 ⟨w,mem,inn,c⟩ = true) : c.length <= 40 := by
  simp [i4,inP] at h
  omega
theorem qnc {l : List Int} {x : Int} (h0 : 0 <= x) (h : x < l.length) : l.getD x.toNat K.ints.dflt ∈ l := by
  have h' : x.toNat < l.length := by omega
  rw [List.getD_eq_getElem?_getD,List.getElem?_eq_getElem h']
  exact List.getElem_mem h'
theorem qm9 (b : List Int) (i g : Int) (l : List Int) (hi : 0 <= i) (hl : b.length <= maxLen) (h1 : 0 < l.length) : CallsG Tryz.prog 85 [.ptr 0 0,.row 1] [.box [.dat (.seq .bytes b),.dat (.i i),.dat (.i g)],.row 3 .ints l false] 2 (fun res B=>∃ x i' g' : Int,res = .dat (.i x) /\ B = [.box [.dat (.seq .bytes b),.dat (.i i'),.dat (.i g')],.row 3 .ints l false] /\ x ∈ l /\ 0 <= i') := by
  refine oG Tryz.func85 ⟨?_⟩
  repeat' (first|((with_reducible refine fun (K1 : KT) hK=>?_);refine w5 ⟨?_⟩)|((with_reducible show K1 _ _);subst hK;conv=>whnf)|refine f2 ⟨?_⟩ ⟨?_⟩|((with_reducible refine iC (g := 21) ?_);refine ⟨_,_,yR (hi := ?_) (hl := asmR) ..,fun res B hRB=>?_⟩;rotate_right;obtain ⟨x,i',g',rfl,rfl,hx,hi'⟩ := hRB;conv=>whnf)|(intro h;conv=>whnf))
  all_goals repeat clear hK K1
  all_goals first|(with_reducible assumption)|exact ⟨_,_,_,rfl,rfl,qnc omG omG,by assumption⟩|omega|skip
theorem prog_in {p : V.Prog} (h : i4 p = true) : 0 <= p.inn /\ p.inn <= 3 /\ inP p.w 1 16 = true := by
  simp [i4,inP] at h ⊢
  omega
theorem mk1 {a w n size : Int} (ha : 0 <= a /\ a <= 255 /\ ((0 : Int) < 4 -> a < 4)) (hw : inP w 1 16 = true) : j5 ⟨1,a,u9 w n,0⟩ w size = true := by
  simp [j5,kA,inP,wordOf_word n hw];omega
theorem mk2 {op a b w size : Int} (ho : op = 2 \/ op = 7 \/ op = 8) (ha : 0 <= a /\ a <= 255 /\ ((0 : Int) < 4 -> a < 4)) (hb : 0 <= b /\ b <= 255 /\ ((0 : Int) < 4 -> b < 4)) : j5 ⟨op,a,b,0⟩ w size = true := by
  rcases ho with rfl|rfl|rfl <;> simp [j5,kA,inP] <;> omega
theorem mk3 {a b w size x : Int} (ha : 0 <= a /\ a <= 255 /\ ((0 : Int) < 4 -> a < 4)) (hb : 0 <= b /\ b <= 255 /\ ((0 : Int) < 4 -> b < 4)) (hx : x ∈ ([3,4,5,6,7,8,9,10,11,12,13,14,15,16] : List Int)) : j5 ⟨3,a,b,x⟩ w size = true := by
  have hx' : 3 <= x /\ x <= 16 := by simp at hx;omega
  simp [j5,kA,inP];omega
theorem mk4 {op a w size : Int} (ho : op = 4 \/ op = 5 \/ op = 6 \/ op = 13) (ha : 0 <= a /\ a <= 255 /\ ((0 : Int) < 4 -> a < 4)) : j5 ⟨op,a,0,0⟩ w size = true := by
  rcases ho with rfl|rfl|rfl|rfl <;> simp [j5,kA,inP] <;> omega
theorem mk9 {op x w size : Int} (ho : op = 9 \/ op = 11) (hx : 0 <= x /\ x <= size) : j5 ⟨op,0,x,0⟩ w size = true := by
  rcases ho with rfl|rfl <;> simp [j5,inP] <;> omega
theorem mk10 {a x w size : Int} (ha : 0 <= a /\ a <= 255 /\ ((0 : Int) < 4 -> a < 4)) (hx : 0 <= x /\ x <= size) : j5 ⟨10,a,x,0⟩ w size = true := by
  simp [j5,kA,inP];omega
theorem qb2 {size x : Int} (hs : 0 <= size /\ size <= 100) (hx : 0 <= x /\ x <= 255 /\ (0 < IntKind.i64.wrap (size + 1) -> x < IntKind.i64.wrap (size + 1))) : 0 <= x /\ x <= size := by
  rw [j3 (n := size + 1) omG omG] at hx;omega
theorem zU {size at' x : Int} (hs : 0 <= size /\ size <= 100) (h0 : 0 <= at') (h1 : at' < size) (hx : 0 <= x /\ x <= 255 /\ (0 < IntKind.i64.wrap (size - at') -> x < IntKind.i64.wrap (size - at'))) : 0 <= IntKind.i64.wrap (IntKind.i64.wrap (at' + 1) + x) /\ IntKind.i64.wrap (IntKind.i64.wrap (at' + 1) + x) <= size := by
  rw [j3 (n := size - at') omG omG] at hx
  rw [j3 (n := at' + 1) omG omG,j3 omG omG];omega
theorem qm7 (b : List Int) (i g w size at' : Int) (hi : 0 <= i) (hl : b.length <= maxLen) (hw : inP w 1 16 = true) (hs : 0 <= size /\ size <= 100) (h0 : 0 <= at') (h1 : at' < size) : CallsG Tryz.prog 47 [.ptr 0 0,.dat (.i w),.dat (.i size),.dat (.i at')] [.box [.dat (.seq .bytes b),.dat (.i i),.dat (.i g)]] 1 (fun res B=>∃ op a c d i' g' : Int,res = .agg [.dat (.i op),.dat (.i a),.dat (.i c),.dat (.i d)] /\ B = [.box [.dat (.seq .bytes b),.dat (.i i'),.dat (.i g')]] /\ j5 ⟨op,a,c,d⟩ w size = true /\ 0 <= i') := by
  refine oG Tryz.func47 ⟨?_⟩
  repeat' (first|((with_reducible refine fun (K1 : KT) hK=>?_);refine w5 ⟨?_⟩)|((with_reducible show K1 _ _);subst hK;conv=>whnf)|refine st0 ⟨?_⟩|((with_reducible refine SplS.mk (fun h=>?_) (fun h=>?_)) <;> first|exact u5|(subst h;conv=>whnf)|(conv=>whnf))|((with_reducible refine iC (g := 21) ?_);refine ⟨_,_,yR (hi := ?_) (hl := asmR) ..,fun res B hRB=>?_⟩;rotate_right;obtain ⟨x,i',g',rfl,rfl,hx,hi'⟩ := hRB;conv=>whnf)|((with_reducible refine iC (g := 20) ?_);refine ⟨_,_,zW (hi := ?_) (hl := asmR) ..,fun res B hRB=>?_⟩;rotate_right;obtain ⟨x,i',g',rfl,rfl,hi'⟩ := hRB;conv=>whnf)|refine vP (tK ..) ⟨?_⟩|((with_reducible refine iC (g := 85) ?_);refine ⟨_,_,qm9 (hi := ?_) (hl := asmR) (h1 := ?_) ..,fun res B hRB=>?_⟩;rotate_right;obtain ⟨x,i',g',rfl,rfl,hm,hi'⟩ := hRB;conv=>whnf))
  all_goals repeat clear hK K1
  all_goals first|(with_reducible assumption)|(refine ⟨_,_,_,_,_,_,rfl,rfl, ?_,by with_reducible assumption⟩;first|exact mk1 asmR hw|exact mk2 (by decide) asmR asmR|exact mk3 asmR asmR asmR|exact mk4 (by decide) asmR|exact mk9 (by decide) (qb2 hs asmR)|exact mk9 (by decide) (zU hs h0 h1 asmR)|exact mk10 asmR (qb2 hs asmR)|exact mk10 asmR (zU hs h0 h1 asmR)|rfl)|exact Nat.succ_pos _|skip
structure DrawI (w mem inn size i : Int) (code : List V.Ins) : Prop where
  hw : 2 <= w /\ w <= 3
  hm : 1 <= mem /\ mem <= 3
  hn : 0 <= inn /\ inn <= 2
  hs : inn + 2 <= size /\ size <= inn + 14
  hi : 0 <= i
  hc : (code.length : Int) <= size
  ha : ∀ x ∈ code,j5 x w size = true
theorem drawI_w {w mem inn size i : Int} {code : List V.Ins} (h : DrawI w mem inn size i code) : inP w 1 16 = true := by
  have := h.hw;simp [inP];omega
theorem drawI_0 {x1 x2 x3 x4 i : Int} (h1 : 0 <= x1 /\ x1 <= 255 /\ ((0 : Int) < 2 -> x1 < 2)) (h2 : 0 <= x2 /\ x2 <= 255 /\ ((0 : Int) < 3 -> x2 < 3)) (h3 : 0 <= x3 /\ x3 <= 255 /\ ((0 : Int) < 3 -> x3 < 3)) (h4 : 0 <= x4 /\ x4 <= 255 /\ ((0 : Int) < 10 -> x4 < 10)) (hi : 0 <= i) :
    DrawI (IntKind.i64.wrap (2 + x1)) (IntKind.i64.wrap (1 + x2)) x3 (IntKind.i64.wrap (IntKind.i64.wrap (x3 + 2) + x4)) i [] := by
  rw [j3 (n := 2 + x1) omG omG,j3 (n := 1 + x2) omG omG,j3 (n := x3 + 2) omG omG,j3 (n := x3 + 2 + x4) omG omG]
  exact ⟨by omega,by omega,by omega,by omega,hi,by simp;omega,fun x hx=>by simp at hx⟩
theorem qfv {w mem inn size i i' : Int} {code : List V.Ins} {y : V.Ins} (h : DrawI w mem inn size i code) (hk : (code.length : Int) < size) (hy : j5 y w size = true) (hi : 0 <= i') : DrawI w mem inn size i' (code ++ [y]) :=
  ⟨h.hw,h.hm,h.hn,h.hs,hi,by simp;omega,fun x hx=>by
    rcases List.mem_append.1 hx with hx|hx
    . exact h.ha x hx
    . rw [List.mem_singleton] at hx;subst hx;exact hy⟩
theorem qnu {w mem inn size i : Int} {code : List V.Ins} (h : DrawI w mem inn size i code) (hk : (code.length : Int) < inn) : j5 ⟨5,code.length,0,0⟩ w size = true := by
  have := h.hn;simp [j5,kA,inP];omega
theorem qnv {w mem inn size i : Int} {code : List V.Ins} (h : DrawI w mem inn size i code) (hk : ¬ (code.length : Int) < size) : i4 ⟨w,mem,inn,code⟩ = true := by
  obtain ⟨hw,hm,hn,hs,_,hc,ha⟩ := h
  have e : (code.length : Int) = size := by omega
  simp only [i4,Bool.and_eq_true,inP,decide_eq_true_eq,wordP,List.all_eq_true]
  refine ⟨⟨⟨⟨⟨⟨by omega,by omega⟩,⟨by omega,by omega⟩⟩,⟨⟨by omega,by omega⟩,by omega, ?_⟩⟩,by omega,by omega⟩,by omega,by omega⟩,fun x hx=>by rw [e];exact ha x hx⟩
  have hw' : w = 2 \/ w = 3 := by omega
  rcases hw' with rfl|rfl
  . show mem <= 3;omega
  . show mem <= 7;omega
theorem qiq {code : List V.Ins} {y : V.Ins} {size : Int} (hk : (code.length : Int) < size) (hs : size <= 100) : Dat.int .i64 (IntKind.i64.wrap ((code.length : Int) + 1)) = Dat.i ((code ++ [y]).length : Nat) := by
  rw [j3 omG omG];simp
theorem drawI_s {w mem inn size i : Int} {code : List V.Ins} (h : DrawI w mem inn size i code) : size <= 100 := by
  have := h.hs;have := h.hn;omega
theorem qm8 (b : List Int) (i g : Int) (hi : 0 <= i) (hl : b.length <= maxLen) : CallsG Tryz.prog 19 [.ptr 0 0,.dat (.i 10)] [.box [.dat (.seq .bytes b),.dat (.i i),.dat (.i g)]] 1 (fun res B=>∃ (w mem inn i' g' : Int) (code : List V.Ins),res = .agg [.dat (.i w),.dat (.i mem),.dat (.i inn),.row 1] /\ B = [.box [.dat (.seq .bytes b),.dat (.i i'),.dat (.i g')],.row 54 .inss code false] /\ i4 ⟨w,mem,inn,code⟩ = true /\ 0 <= i') := by
  refine oG Tryz.func19 ⟨?_⟩
  repeat' (first|((with_reducible refine Alt.r ?_);conv=>whnf)|((with_reducible refine fun (K1 : KT) hK=>?_);refine w5 ⟨?_⟩)|((with_reducible show K1 _ _);subst hK;conv=>whnf)|(with_reducible exact rfl)|refine st0 ⟨?_⟩|((with_reducible refine SplS.mk (fun h=>?_) (fun h=>?_)) <;> first|exact u5|(subst h;conv=>whnf)|(conv=>whnf))|refine f2 ⟨?_⟩ ⟨?_⟩|(refine y5 ({x : (Int × Int × Int) × (Int × Int × Int) × List V.Ins // DrawI x.1.1 x.1.2.1 x.1.2.2 x.2.1.1 x.2.1.2.1 x.2.2}) (fun ⟨⟨⟨w,mem,inn⟩,⟨size,i,g⟩,code⟩,hI⟩=>x5 Tryz.f19.ntmps [(0,.ptr 900000 0),(4,.ptr 4 0),(5,.ptr 5 0),(6,.dat (.i size)),(7,.dat (.i code.length))] [(900000,.box [.dat (.seq .bytes b),.dat (.i i),.dat (.i g)]),(4,.box [.cell,.cell,.cell,.cell]),(5,.box [.dat (.i w),.dat (.i mem),.dat (.i inn),.row 107]),(107,.row 54 .inss code false)]) (fun ⟨⟨⟨w,mem,inn⟩,⟨size,i,g⟩,code⟩,hI⟩=>(size.toNat - code.length)) ⟨⟨⟨?_, ?_, ?_⟩,⟨?_, ?_, ?_⟩,[]⟩, ?_⟩ (SubP.sub (σ := [(900000,some 900000),(4,some 4),(5,some 5),(107,none)]) ⟨⟨rfl,rfl,rfl⟩,⟨rr,rr,rr,o0 ?_,o0 ?_,trivial⟩,⟨⟨j0 ?_,j0 ?_,j0 ?_,trivial⟩,⟨rfl,rfl,rfl,rfl,trivial⟩,⟨j0 ?_,j0 ?_,j0 ?_,rfl,trivial⟩, ?_,trivial⟩⟩) (fun ⟨⟨⟨w,mem,inn⟩,⟨size,i,g⟩,code⟩,hI⟩=>?_);rotate_right;conv=>whnf)|(refine b6 ⟨⟨⟨w,mem,inn⟩,⟨size, ?_, ?_⟩, ?_⟩, ?_⟩ ?_ (SubP.sub (σ := [(900000,some 900000),(4,some 4),(5,some 5),(107,some 43)]) ⟨⟨rfl,rfl,rfl⟩,⟨rr,rr,rr,o0 ?_,o0 ?_,trivial⟩,⟨⟨j0 ?_,j0 ?_,j0 ?_,trivial⟩,⟨rfl,rfl,rfl,rfl,trivial⟩,⟨j0 ?_,j0 ?_,j0 ?_,rfl,trivial⟩,⟨rr, ?_⟩,trivial⟩⟩))|(refine b6 ⟨⟨⟨w,mem,inn⟩,⟨size, ?_, ?_⟩, ?_⟩, ?_⟩ ?_ (SubP.sub (σ := [(900000,some 900000),(4,some 4),(5,some 5),(107,some 54)]) ⟨⟨rfl,rfl,rfl⟩,⟨rr,rr,rr,o0 ?_,o0 ?_,trivial⟩,⟨⟨j0 ?_,j0 ?_,j0 ?_,trivial⟩,⟨rfl,rfl,rfl,rfl,trivial⟩,⟨j0 ?_,j0 ?_,j0 ?_,rfl,trivial⟩,⟨rr, ?_⟩,trivial⟩⟩))|((with_reducible refine iC (g := 21) ?_);refine ⟨_,_,yR (hi := ?_) (hl := asmR) ..,fun res B hRB=>?_⟩;rotate_right;obtain ⟨x,i',g',rfl,rfl,hx,hi'⟩ := hRB;conv=>whnf)|((with_reducible refine iC (g := 20) ?_);refine ⟨_,_,zW (hi := ?_) (hl := asmR) ..,fun res B hRB=>?_⟩;rotate_right;obtain ⟨x,i',g',rfl,rfl,hi'⟩ := hRB;conv=>whnf)|((with_reducible refine iC (g := 47) ?_);refine ⟨_,_,qm7 (hi := ?_) (hl := asmR) (hw := ?_) (hs := ?_) (h0 := ?_) (h1 := ?_) ..,fun res B hRB=>?_⟩;rotate_right;obtain ⟨op,a,c,d,i',g',rfl,rfl,hp,hi'⟩ := hRB;conv=>whnf))
  all_goals repeat clear hK K1
  all_goals first|(with_reducible assumption)|exact hI.hi|exact drawI_w hI|exact qfv hI asmR (qnu hI asmR) asmR|exact qfv hI asmR asmR asmR|exact drawI_0 asmR asmR asmR asmR asmR|exact (qiq asmR (drawI_s hI)).symm|exact (rfl : Dat.i ((([] : List V.Ins).length : Nat) : Int) = Dat.int .i64 0)|exact ⟨_,_,_,_,_,_,rfl,rfl,qnv hI asmR,hI.hi⟩|(show size.toNat - (code ++ [_]).length < size.toNat - code.length;simp;omega)|(show (code.length + 1) * 32 <= 140737488355328;have q1 := hI.hs;have q2 := hI.hn;have q3 := hI.hc;simp only at q1 q2 q3;omega)|(show code.length + 1 <= maxLen;have q1 := hI.hs;have q2 := hI.hn;have q3 := hI.hc;have hm : maxLen = 9223372036854775807 := rfl;simp only at q1 q2 q3;omega)|(have q1 := hI.hs;have q2 := hI.hn;simp only at q1 q2;omega)|(show ([] : List V.Ins).length = 0;rfl)|skip
structure GivI (w mem inn i : Int) (code : List V.Ins) (k : Int) : Prop where
  hp : i4 ⟨w,mem,inn,code⟩ = true
  hi : 0 <= i
  hk : 0 <= k
theorem zR {w mem inn i k : Int} {code : List V.Ins} (h : GivI w mem inn i code k) : code.length <= 40 := prog_c h.hp
theorem givI_st {w mem inn i : Int} {code : List V.Ins} (hp : i4 ⟨w,mem,inn,code⟩ = true) (hi : 0 <= i) : GivI w mem inn i code inn := ⟨hp,hi,(prog_in hp).1⟩
theorem qke {w mem inn : Int} {code : List V.Ins} {y : V.Ins} (k : Nat) (hp : i4 ⟨w,mem,inn,code⟩ = true) (hy : j5 y w code.length = true) : i4 ⟨w,mem,inn,code.set k y⟩ = true := by
  simp only [i4,Bool.and_eq_true,List.all_eq_true,List.length_set] at hp ⊢
  refine ⟨hp.1,fun x hx=>?_⟩
  rcases List.mem_or_eq_of_mem_set hx with h|h
  . exact hp.2 x h
  . subst h;exact hy
theorem qna {w mem inn i i' k : Int} {code : List V.Ins} (h : GivI w mem inn i code k) (hi : 0 <= i') (hk : k < code.length) : GivI w mem inn i' code (IntKind.i64.wrap (k + 1)) := by
  have h1 := h.hk;have h2 := zR h
  exact ⟨h.hp,hi,by rw [j3 omG omG];omega⟩
theorem qnb {w mem inn i i' k a x : Int} {code : List V.Ins} (h : GivI w mem inn i code k) (hi : 0 <= i') (hk : k < code.length) (ha : 0 <= a /\ a <= 255 /\ ((0 : Int) < 3 -> a < 3))
    (hx : 0 <= x /\ x <= 255 /\ (0 < IntKind.i64.wrap ((code.length : Int) - k) -> x < IntKind.i64.wrap ((code.length : Int) - k))) :
    GivI w mem inn i' (code.set k.toNat ⟨10,a,IntKind.i64.wrap (IntKind.i64.wrap (k + 1) + x),0⟩) (IntKind.i64.wrap (k + 1)) := by
  have h1 := h.hk;have h2 := zR h
  refine ⟨qke _ h.hp (mk10 omG (zU omG h1 hk hx)),hi,by rw [j3 omG omG];omega⟩
theorem qer {code : List V.Ins} {k : Int} (h0 : 0 <= k) (hl : code.length <= 40) (hk : k < code.length) : ((code.length : Int) - IntKind.i64.wrap (k + 1)).toNat < ((code.length : Int) - k).toNat := by
  rw [j3 omG omG];omega
theorem giv_mu1 {code : List V.Ins} {y : V.Ins} {k : Int} (h0 : 0 <= k) (hl : code.length <= 40) (hk : k < code.length) : (((code.set k.toNat y).length : Int) - IntKind.i64.wrap (k + 1)).toNat < ((code.length : Int) - k).toNat := by
  rw [List.length_set];exact qer h0 hl hk
theorem qob (b : List Int) (n : Int) (hn : 0 <= n) (hl : b.length <= maxLen) : CallsF Tryz.prog 5 [.dat (.seq .bytes b),.dat (.i n)] true (fun res B=>∃ (w mem inn : Int) (code : List V.Ins),res = .agg [.dat (.i w),.dat (.i mem),.dat (.i inn),.row 0] /\ B = [.row 54 .inss code false] /\ i4 ⟨w,mem,inn,code⟩ = true) := by
  refine oF Tryz.func5 ⟨?_⟩
  repeat' (first|((with_reducible refine Alt.r ?_);conv=>whnf)|((with_reducible refine fun (K1 : KT) hK=>?_);refine w5 ⟨?_⟩)|((with_reducible show K1 _ _);subst hK;conv=>whnf)|(with_reducible exact rfl)|refine st0 ⟨?_⟩|((with_reducible refine SplS.mk (fun h=>?_) (fun h=>?_)) <;> first|exact u5|(subst h;conv=>whnf)|(conv=>whnf))|refine f2 ⟨?_⟩ ⟨?_⟩|(refine y5 ({x : (Int × Int × Int) × (Int × Int × Int) × List V.Ins // GivI x.1.1 x.1.2.1 x.1.2.2 x.2.1.1 x.2.2 x.2.1.2.2}) (fun ⟨⟨⟨w,mem,inn⟩,⟨i,g,k⟩,code⟩,hI⟩=>x5 Tryz.f5.ntmps [(4,.ptr 4 0),(5,.ptr 105 0),(6,.ptr 6 0),(7,.dat (.i k))] [(105,.box [.dat (.seq .bytes b),.dat (.i i),.dat (.i g)]),(4,.box [.cell,.cell,.cell,.cell]),(6,.box [.dat (.i w),.dat (.i mem),.dat (.i inn),.row 107]),(107,.row 54 .inss code false)]) (fun ⟨⟨⟨w,mem,inn⟩,⟨i,g,k⟩,code⟩,hI⟩=>(code.length - k).toNat) ⟨⟨⟨?_, ?_, ?_⟩,⟨?_, ?_, ?_⟩, ?_⟩, ?_⟩ (SubP.sub (σ := [(105,some 11000),(4,some 4),(6,some 6),(107,some 13001)]) ⟨⟨rfl,rfl,rfl⟩,⟨rr,rr,rr,o0 ?_,trivial⟩,⟨⟨j0 ?_,j0 ?_,j0 ?_,trivial⟩,⟨rfl,rfl,rfl,rfl,trivial⟩,⟨j0 ?_,j0 ?_,j0 ?_,rfl,trivial⟩,⟨rr, ?_⟩,trivial⟩⟩) (fun ⟨⟨⟨w,mem,inn⟩,⟨i,g,k⟩,code⟩,hI⟩=>?_);rotate_right;conv=>whnf)|(refine b6 ⟨⟨⟨w,mem,inn⟩,⟨?_, ?_, ?_⟩, ?_⟩, ?_⟩ ?_ (SubP.sub (σ := [(105,some 105),(4,some 4),(6,some 6),(107,some 107)]) ⟨⟨rfl,rfl,rfl⟩,⟨rr,rr,rr,o0 ?_,trivial⟩,⟨⟨j0 ?_,j0 ?_,j0 ?_,trivial⟩,⟨rfl,rfl,rfl,rfl,trivial⟩,⟨j0 ?_,j0 ?_,j0 ?_,rfl,trivial⟩,⟨rr, ?_⟩,trivial⟩⟩))|refine eS (qgq (hl := ?_) ..) ⟨?_⟩|((with_reducible refine iC (g := 19) ?_);refine ⟨_,_,qm8 (hi := ?_) (hl := asmR) ..,fun res B hRB=>?_⟩;rotate_right;obtain ⟨w,mem,inn,i',g',code,rfl,rfl,hp,hi'⟩ := hRB;conv=>whnf)|((with_reducible refine iC (g := 20) ?_);refine ⟨_,_,zW (hi := ?_) (hl := asmR) ..,fun res B hRB=>?_⟩;rotate_right;obtain ⟨x,i',g',rfl,rfl,hi'⟩ := hRB;conv=>whnf)|((with_reducible refine iC (g := 21) ?_);refine ⟨_,_,yR (hi := ?_) (hl := asmR) ..,fun res B hRB=>?_⟩;rotate_right;obtain ⟨x,i',g',rfl,rfl,hx,hi'⟩ := hRB;conv=>whnf)|(intro h;conv=>whnf))
  all_goals repeat clear hK K1
  all_goals first|(with_reducible assumption)|exact mY hn|exact hI.hi|exact givI_st asmR asmR|exact qna hI asmR asmR|exact qnb hI asmR asmR asmR asmR|exact hI.hk|exact ⟨_,_,_,_,rfl,rfl,hI.hp⟩|exact giv_mu1 hI.hk (zR hI) asmR|(have q : 0 <= k := hI.hk;have q2 : k < code.length := asmR;omega)|exact qer hI.hk (zR hI) asmR|skip
theorem qoa (b : List Int) (n : Int) (hn : 0 <= n) (hl : b.length <= maxLen) : CallsF Tryz.prog 5 [.dat (.seq .bytes b),.dat (.i n)] true (fun res B=>(∃ (w mem inn : Int) (code : List V.Ins),res = .agg [.dat (.i w),.dat (.i mem),.dat (.i inn),.dat (.seq .inss code)] /\ i4 ⟨w,mem,inn,code⟩ = true) /\ B = []) :=
  (qob b n hn hl).toE (Q := fun res=>∃ (w mem inn : Int) (code : List V.Ins),res = .agg [.dat (.i w),.dat (.i mem),.dat (.i inn),.dat (.seq .inss code)] /\ i4 ⟨w,mem,inn,code⟩ = true) fun res B' ⟨w,mem,inn,code,h1,h2,h3⟩=>⟨_,⟨w,mem,inn,code,rfl,h3⟩,by subst h1 h2;exact ⟨rfl,rfl,rfl,rfl,trivial⟩⟩
end Vg
