/- The cursor that draws numbers out of bytes: contracts. Condition: the place in the bytes is not negative. -/
import Derived.Test.YtnjkencoohaheaaConv
namespace Vg
open Go Go.Proofs
/-- the and of two words -/
def and64 (a b : Int) : Int := IntKind.i64.wrap (BitVec.ofInt IntKind.i64.bits a &&& BitVec.ofInt IntKind.i64.bits b).toNat
def xor64 (a b : Int) : Int := IntKind.i64.wrap (BitVec.ofInt IntKind.i64.bits a ^^^ BitVec.ofInt IntKind.i64.bits b).toNat
theorem and_low (a : Int) {m : Nat} (hm : m < 9223372036854775808) : 0 ≤ and64 a m ∧ and64 a m ≤ m := by
  have h : (BitVec.ofInt IntKind.i64.bits a &&& BitVec.ofInt IntKind.i64.bits (m : Int)).toNat ≤ m := by
    rw [BitVec.toNat_and]
    refine Nat.le_trans Nat.and_le_right ?_
    rw [BitVec.toNat_ofInt]
    have : (IntKind.i64.bits) = 64 := rfl
    rw [this]; omega
  unfold and64
  rw [wrap_id (by omega) (by omega)]; omega
theorem and255 (a : Int) : 0 ≤ and64 a 255 ∧ and64 a 255 ≤ 255 := and_low a (m := 255) (by decide)
def curH (h : Int) : Int := IntKind.i64.wrap (IntKind.i64.wrap (h * 6364136223846793005) + 1442695040888963407)
def curI (b : List Int) (i : Int) : Int := if i < b.length then i + 1 else i
def curX0 (h : Int) : Int := and64 (xor64 ((curH h).fdiv (2 ^ (min (33 : Int).toNat IntKind.i64.bits))) ((curH h).fdiv (2 ^ (min (45 : Int).toNat IntKind.i64.bits)))) 255
def curX (b : List Int) (i h : Int) : Int := if i < b.length then and64 (IntKind.i64.wrap (curX0 h + IntKind.i64.wrap (b.getD i.toNat 0))) 255 else curX0 h
theorem curX_y {b : List Int} {i h : Int} (hi : i < b.length) : curX b i h = and64 (IntKind.i64.wrap (curX0 h + IntKind.i64.wrap (b.getD i.toNat 0))) 255 := if_pos hi
theorem curX_n {b : List Int} {i h : Int} (hi : ¬ i < b.length) : curX b i h = curX0 h := if_neg hi
theorem curI_y {b : List Int} {i : Int} (h0 : 0 ≤ i) (hi : i < b.length) (hl : b.length ≤ maxLen) : curI b i = IntKind.i64.wrap (i + 1) := by
  have hm : maxLen = 9223372036854775807 := rfl
  rw [curI, if_pos hi, wrap_id (by omega) (by omega)]
theorem curI_n {b : List Int} {i : Int} (hi : ¬ i < b.length) : curI b i = i := if_neg hi
theorem curI_0 {b : List Int} {i : Int} (h : 0 ≤ i) : 0 ≤ curI b i := by unfold curI; split <;> omega
theorem curX_r (b : List Int) (i h : Int) : 0 ≤ curX b i h ∧ curX b i h ≤ 255 := by
  unfold curX; split
  · exact and255 _
  · exact and255 _
/-- what a contract of the cursor hands back -/
theorem box_fin {i i' h h' : Int} {s : Dat} (h2 : i = i') (h3 : h = h') : [Blk.box [.dat s, .dat (.i i), .dat (.i h)]] = [Blk.box [.dat s, .dat (.i i'), .dat (.i h')]] := by rw [h2, h3]
theorem num_fin {x x' : Int} (h : x = x') : AV.dat (.int .i64 x) = AV.dat (.i x') := by rw [h]
set_option maxHeartbeats 2000000 in
set_option maxRecDepth 100000 in
theorem c_l01Byte (b : List Int) (i g : Int) (hi : 0 ≤ i) (hl : b.length ≤ maxLen) : CallsG Try.prog 105 [.ptr 0 0] [.box [.dat (.seq .bytes b), .dat (.i i), .dat (.i g)]] 1 (fun res B => res = .dat (.i (curX b i g)) ∧ B = [.box [.dat (.seq .bytes b), .dat (.i (curI b i)), .dat (.i (curH g))]]) := by
  refine CallsG.of_awp tauOk mixOk Try.func105 rfl rfl rfl ?_
  conv => whnf
  repeat' (first
    | ((with_reducible refine Alt.l ?_); conv => whnf)
    | ((with_reducible refine fun (K1 : AX → AState → Prop) hK => ?_); conv => whnf)
    | ((with_reducible show K1 _ _); subst hK; conv => whnf)
    | (with_reducible exact rfl)
    | ((with_reducible refine sp_T ?_); conv => whnf)
    | ((with_reducible refine sp_F ?_); conv => whnf)
    | ((with_reducible refine sp_T' ?_); conv => whnf)
    | ((with_reducible refine sp_F' ?_); conv => whnf)
    | ((with_reducible refine sp_dF ?_ ?_); decide; conv => whnf)
    | ((with_reducible refine sp_dT ?_ ?_); decide; conv => whnf)
    | ((with_reducible refine sp_d (fun h => ?_) (fun h => ?_)) <;> first | contradiction | (subst h; conv => whnf) | (conv => whnf))
    | ((with_reducible refine sp_d' (fun h => ?_) (fun h => ?_)) <;> first | contradiction | (subst h; conv => whnf) | (conv => whnf))
    | ((with_reducible refine sp_eF ?_ ?_); decide; conv => whnf)
    | ((with_reducible refine sp_eT ?_); conv => whnf)
    | ((with_reducible refine sp_e (fun h => ?_) (fun h => ?_)) <;> first | contradiction | (subst h; conv => whnf) | (conv => whnf))
    | ((with_reducible refine sp_e' (fun h => ?_) (fun h => ?_)) <;> first | contradiction | (subst h; conv => whnf) | (conv => whnf))
    | ((with_reducible refine sp_n (fun h => ?_) (fun h => ?_)) <;> first | contradiction | (subst h; conv => whnf) | (conv => whnf))
    | ((with_reducible refine sp_n' (fun h => ?_) (fun h => ?_)) <;> first | contradiction | (subst h; conv => whnf) | (conv => whnf))
    | ((with_reducible refine sp_nb (fun h => ?_) (fun h => ?_)) <;> first | (exact Bool.noConfusion (Eq.trans (Eq.symm h) (show _ = true by with_reducible assumption))) | (exact Bool.noConfusion (Eq.trans (Eq.symm (show _ = false by with_reducible assumption)) h)) | (conv => whnf))
    | ((with_reducible refine sp_nb' (fun h => ?_) (fun h => ?_)) <;> first | (exact Bool.noConfusion (Eq.trans (Eq.symm h) (show _ = true by with_reducible assumption))) | (exact Bool.noConfusion (Eq.trans (Eq.symm (show _ = false by with_reducible assumption)) h)) | (conv => whnf))
    | ((with_reducible refine sp_b (fun h => ?_) (fun h => ?_)) <;> first | (exact Bool.noConfusion (Eq.trans (Eq.symm h) (show _ = true by with_reducible assumption))) | (exact Bool.noConfusion (Eq.trans (Eq.symm (show _ = false by with_reducible assumption)) h)) | (conv => whnf))
    | ((with_reducible refine sp_b' (fun h => ?_) (fun h => ?_)) <;> first | (exact Bool.noConfusion (Eq.trans (Eq.symm h) (show _ = true by with_reducible assumption))) | (exact Bool.noConfusion (Eq.trans (Eq.symm (show _ = false by with_reducible assumption)) h)) | (conv => whnf))
    | (refine ⟨(rfl : nodupB _ = true), rfl, ?_⟩; conv => whnf)
    | (with_reducible refine bnd2 ?_ ?_)
    | (with_reducible refine bnd2' ?_ ?_)
    | (with_reducible refine bndN ?_ ?_)
    | ((with_reducible refine and_of ?_ ?_); conv => whnf)
    | ((with_reducible show awpOps _ _ _ _ _ _); conv => whnf)
    | (intro h; conv => whnf))
  all_goals (repeat (clear hK; clear K1))
  all_goals first
    | (with_reducible assumption)
    | ((with_reducible refine num_fin ?_); first | (rw [curX_y (by with_reducible assumption)]; unfold curX0 and64 xor64 curH; rfl) | (rw [curX_n (by with_reducible assumption)]; unfold curX0 and64 xor64 curH; rfl))
    | ((with_reducible refine box_fin ?_ ?_) <;> first | (with_reducible exact (curI_y hi (by assumption) hl).symm) | (with_reducible exact (curI_n (by assumption)).symm) | (unfold curH; rfl))
    | decide
def belX (b : List Int) (i h n : Int) : Int := if n ≤ 0 then 0 else (curX b i h).tmod n
def belI (b : List Int) (i n : Int) : Int := if n ≤ 0 then i else curI b i
def belH (h n : Int) : Int := if n ≤ 0 then h else curH h
theorem belI_0 {b : List Int} {i n : Int} (h : 0 ≤ i) : 0 ≤ belI b i n := by unfold belI; split; exact h; exact curI_0 h
theorem belX_r (b : List Int) (i h n : Int) : 0 ≤ belX b i h n ∧ belX b i h n ≤ 255 ∧ (0 < n → belX b i h n < n) := by
  have h1 := curX_r b i h
  unfold belX; split
  · omega
  · have h2 := Int.tmod_nonneg n h1.1
    have h3 := Int.tmod_lt_of_pos (curX b i h) (show 0 < n by omega)
    refine ⟨h2, ?_, fun _ => h3⟩
    have h4 : (curX b i h).tmod n ≤ curX b i h := by
      rw [Int.tmod_eq_emod_of_nonneg h1.1]
      have e := Int.emod_add_mul_ediv (curX b i h) n
      have q := Int.mul_nonneg (show 0 ≤ n by omega) (Int.ediv_nonneg h1.1 (show 0 ≤ n by omega))
      omega
    omega
theorem belX_y {b : List Int} {i h n : Int} (hn : n ≤ 0) : belX b i h n = 0 := if_pos hn
theorem belX_n {b : List Int} {i h n : Int} (hn : ¬ n ≤ 0) : belX b i h n = (curX b i h).tmod n := if_neg hn
theorem belI_y {b : List Int} {i n : Int} (hn : n ≤ 0) : belI b i n = i := if_pos hn
theorem belI_n {b : List Int} {i n : Int} (hn : ¬ n ≤ 0) : belI b i n = curI b i := if_neg hn
theorem belH_y {h n : Int} (hn : n ≤ 0) : belH h n = h := if_pos hn
theorem belH_n {h n : Int} (hn : ¬ n ≤ 0) : belH h n = curH h := if_neg hn
set_option maxRecDepth 100000 in
theorem c_l01Below (b : List Int) (i g n : Int) (hi : 0 ≤ i) (hl : b.length ≤ maxLen) : CallsG Try.prog 56 [.ptr 0 0, .dat (.i n)] [.box [.dat (.seq .bytes b), .dat (.i i), .dat (.i g)]] 1 (fun res B => res = .dat (.i (belX b i g n)) ∧ B = [.box [.dat (.seq .bytes b), .dat (.i (belI b i n)), .dat (.i (belH g n))]]) := by
  refine CallsG.of_awp tauOk mixOk Try.func56 rfl rfl rfl ?_
  conv => whnf
  repeat' (first
    | ((with_reducible refine Alt.l ?_); conv => whnf)
    | ((with_reducible refine fun (K1 : AX → AState → Prop) hK => ?_); conv => whnf)
    | ((with_reducible show K1 _ _); subst hK; conv => whnf)
    | (with_reducible exact rfl)
    | ((with_reducible refine sp_T ?_); conv => whnf)
    | ((with_reducible refine sp_F ?_); conv => whnf)
    | ((with_reducible refine sp_T' ?_); conv => whnf)
    | ((with_reducible refine sp_F' ?_); conv => whnf)
    | ((with_reducible refine sp_dF ?_ ?_); decide; conv => whnf)
    | ((with_reducible refine sp_dT ?_ ?_); decide; conv => whnf)
    | ((with_reducible refine sp_d (fun h => ?_) (fun h => ?_)) <;> first | contradiction | (subst h; conv => whnf) | (conv => whnf))
    | ((with_reducible refine sp_d' (fun h => ?_) (fun h => ?_)) <;> first | contradiction | (subst h; conv => whnf) | (conv => whnf))
    | ((with_reducible refine sp_eF ?_ ?_); decide; conv => whnf)
    | ((with_reducible refine sp_eT ?_); conv => whnf)
    | ((with_reducible refine sp_e (fun h => ?_) (fun h => ?_)) <;> first | contradiction | (subst h; conv => whnf) | (conv => whnf))
    | ((with_reducible refine sp_e' (fun h => ?_) (fun h => ?_)) <;> first | contradiction | (subst h; conv => whnf) | (conv => whnf))
    | ((with_reducible refine sp_n (fun h => ?_) (fun h => ?_)) <;> first | contradiction | (subst h; conv => whnf) | (conv => whnf))
    | ((with_reducible refine sp_n' (fun h => ?_) (fun h => ?_)) <;> first | contradiction | (subst h; conv => whnf) | (conv => whnf))
    | ((with_reducible refine sp_nb (fun h => ?_) (fun h => ?_)) <;> first | (exact Bool.noConfusion (Eq.trans (Eq.symm h) (show _ = true by with_reducible assumption))) | (exact Bool.noConfusion (Eq.trans (Eq.symm (show _ = false by with_reducible assumption)) h)) | (conv => whnf))
    | ((with_reducible refine sp_nb' (fun h => ?_) (fun h => ?_)) <;> first | (exact Bool.noConfusion (Eq.trans (Eq.symm h) (show _ = true by with_reducible assumption))) | (exact Bool.noConfusion (Eq.trans (Eq.symm (show _ = false by with_reducible assumption)) h)) | (conv => whnf))
    | ((with_reducible refine sp_b (fun h => ?_) (fun h => ?_)) <;> first | (exact Bool.noConfusion (Eq.trans (Eq.symm h) (show _ = true by with_reducible assumption))) | (exact Bool.noConfusion (Eq.trans (Eq.symm (show _ = false by with_reducible assumption)) h)) | (conv => whnf))
    | ((with_reducible refine sp_b' (fun h => ?_) (fun h => ?_)) <;> first | (exact Bool.noConfusion (Eq.trans (Eq.symm h) (show _ = true by with_reducible assumption))) | (exact Bool.noConfusion (Eq.trans (Eq.symm (show _ = false by with_reducible assumption)) h)) | (conv => whnf))
    | (refine ⟨(rfl : nodupB _ = true), rfl, ?_⟩; conv => whnf)
    | (with_reducible refine bnd2 ?_ ?_)
    | (with_reducible refine bnd2' ?_ ?_)
    | (with_reducible refine bndN ?_ ?_)
    | ((with_reducible refine and_of ?_ ?_); conv => whnf)
    | ((with_reducible refine gcI (g := 105) ?_); refine ⟨_, _, c_l01Byte (hi := ?_) (hl := ?_) .., fun res B hRB => ?_⟩; rotate_right; obtain ⟨rfl, rfl⟩ := hRB; conv => whnf)
    | ((with_reducible show awpOps _ _ _ _ _ _); conv => whnf)
    | (intro h; conv => whnf))
  all_goals (repeat (clear hK; clear K1))
  all_goals first | (with_reducible assumption) | exact num_fin (belX_y (by assumption)).symm | exact num_fin (belX_n (by assumption)).symm | exact box_fin (belI_y (by assumption)).symm (belH_y (by assumption)).symm | exact box_fin (belI_n (by assumption)).symm (belH_n (by assumption)).symm | omega | skip
set_option maxRecDepth 100000 in
theorem c_l01Once (b : List Int) (i g n : Int) (hi : 0 ≤ i) (hl : b.length ≤ maxLen) : CallsG Try.prog 55 [.ptr 0 0, .dat (.i n)] [.box [.dat (.seq .bytes b), .dat (.i i), .dat (.i g)]] 1 (fun res B => res = .dat (.bool (decide (belX b i g n = 0))) ∧ B = [.box [.dat (.seq .bytes b), .dat (.i (belI b i n)), .dat (.i (belH g n))]]) := by
  refine CallsG.of_awp tauOk mixOk Try.func55 rfl rfl rfl ?_
  conv => whnf
  repeat' (first
    | ((with_reducible refine Alt.l ?_); conv => whnf)
    | ((with_reducible refine fun (K1 : AX → AState → Prop) hK => ?_); conv => whnf)
    | ((with_reducible show K1 _ _); subst hK; conv => whnf)
    | (with_reducible exact rfl)
    | ((with_reducible refine sp_T ?_); conv => whnf)
    | ((with_reducible refine sp_F ?_); conv => whnf)
    | ((with_reducible refine sp_T' ?_); conv => whnf)
    | ((with_reducible refine sp_F' ?_); conv => whnf)
    | ((with_reducible refine sp_dF ?_ ?_); decide; conv => whnf)
    | ((with_reducible refine sp_dT ?_ ?_); decide; conv => whnf)
    | ((with_reducible refine sp_d (fun h => ?_) (fun h => ?_)) <;> first | contradiction | (subst h; conv => whnf) | (conv => whnf))
    | ((with_reducible refine sp_d' (fun h => ?_) (fun h => ?_)) <;> first | contradiction | (subst h; conv => whnf) | (conv => whnf))
    | ((with_reducible refine sp_eF ?_ ?_); decide; conv => whnf)
    | ((with_reducible refine sp_eT ?_); conv => whnf)
    | ((with_reducible refine sp_e (fun h => ?_) (fun h => ?_)) <;> first | contradiction | (subst h; conv => whnf) | (conv => whnf))
    | ((with_reducible refine sp_e' (fun h => ?_) (fun h => ?_)) <;> first | contradiction | (subst h; conv => whnf) | (conv => whnf))
    | ((with_reducible refine sp_n (fun h => ?_) (fun h => ?_)) <;> first | contradiction | (subst h; conv => whnf) | (conv => whnf))
    | ((with_reducible refine sp_n' (fun h => ?_) (fun h => ?_)) <;> first | contradiction | (subst h; conv => whnf) | (conv => whnf))
    | ((with_reducible refine sp_nb (fun h => ?_) (fun h => ?_)) <;> first | (exact Bool.noConfusion (Eq.trans (Eq.symm h) (show _ = true by with_reducible assumption))) | (exact Bool.noConfusion (Eq.trans (Eq.symm (show _ = false by with_reducible assumption)) h)) | (conv => whnf))
    | ((with_reducible refine sp_nb' (fun h => ?_) (fun h => ?_)) <;> first | (exact Bool.noConfusion (Eq.trans (Eq.symm h) (show _ = true by with_reducible assumption))) | (exact Bool.noConfusion (Eq.trans (Eq.symm (show _ = false by with_reducible assumption)) h)) | (conv => whnf))
    | ((with_reducible refine sp_b (fun h => ?_) (fun h => ?_)) <;> first | (exact Bool.noConfusion (Eq.trans (Eq.symm h) (show _ = true by with_reducible assumption))) | (exact Bool.noConfusion (Eq.trans (Eq.symm (show _ = false by with_reducible assumption)) h)) | (conv => whnf))
    | ((with_reducible refine sp_b' (fun h => ?_) (fun h => ?_)) <;> first | (exact Bool.noConfusion (Eq.trans (Eq.symm h) (show _ = true by with_reducible assumption))) | (exact Bool.noConfusion (Eq.trans (Eq.symm (show _ = false by with_reducible assumption)) h)) | (conv => whnf))
    | (refine ⟨(rfl : nodupB _ = true), rfl, ?_⟩; conv => whnf)
    | (with_reducible refine bnd2 ?_ ?_)
    | (with_reducible refine bnd2' ?_ ?_)
    | (with_reducible refine bndN ?_ ?_)
    | ((with_reducible refine and_of ?_ ?_); conv => whnf)
    | ((with_reducible refine gcI (g := 56) ?_); refine ⟨_, _, c_l01Below (hi := ?_) (hl := ?_) .., fun res B hRB => ?_⟩; rotate_right; obtain ⟨rfl, rfl⟩ := hRB; conv => whnf)
    | ((with_reducible show awpOps _ _ _ _ _ _); conv => whnf)
    | (intro h; conv => whnf))
  all_goals (repeat (clear hK; clear K1))
  all_goals first | (with_reducible assumption) | rfl | omega | skip
def hash0 (b : List Int) : Int := IntKind.i64.wrap (55127 + b.length)
def hashTo (b : List Int) : Nat → Int
  | 0 => hash0 b
  | k + 1 => and64 (IntKind.i64.wrap (IntKind.i64.wrap (IntKind.i64.wrap (hashTo b k * 131) + IntKind.i64.wrap (b.getD k 0)) + 7)) 1073741823
def hashN (b : List Int) : Nat := min b.length 4000
theorem hash_end {b : List Int} {k : Nat} (hk : k ≤ hashN b) (h : (decide ((k : Int) < b.length) && decide ((k : Int) < 4000)) = false) : k = hashN b := by
  unfold hashN at *; simp at h; omega
theorem hash_end1 {b : List Int} {k : Nat} (hk : k ≤ hashN b) (h : ¬ (k : Int) < b.length) : k = hashN b := by unfold hashN at *; omega
theorem hash_end2 {b : List Int} {k : Nat} (hk : k ≤ hashN b) (h : ¬ (k : Int) < 4000) : k = hashN b := by unfold hashN at *; omega
theorem hash_lt {b : List Int} {k : Nat} (h1 : (k : Int) < b.length) (h2 : (k : Int) < 4000) : k + 1 ≤ hashN b := by unfold hashN; omega
set_option maxHeartbeats 2000000 in
set_option maxRecDepth 100000 in
theorem c_l01New (b : List Int) (_hl : b.length ≤ maxLen) : CallsF Try.prog 103 [.dat (.seq .bytes b)] false (fun res B => res = .ptr 0 0 ∧ B = [.box [.dat (.seq .bytes b), .dat (.i 0), .dat (.i (hashTo b (hashN b)))]]) := by
  refine CallsF.of_awp tauOk mixOk Try.func103 rfl rfl rfl ?_
  conv => whnf
  repeat' (first
    | ((with_reducible refine Alt.l ?_); conv => whnf)
    | ((with_reducible refine fun (K1 : AX → AState → Prop) hK => ?_); conv => whnf)
    | ((with_reducible show K1 _ _); subst hK; conv => whnf)
    | (with_reducible exact rfl)
    | ((with_reducible refine sp_T ?_); conv => whnf)
    | ((with_reducible refine sp_F ?_); conv => whnf)
    | ((with_reducible refine sp_T' ?_); conv => whnf)
    | ((with_reducible refine sp_F' ?_); conv => whnf)
    | ((with_reducible refine sp_dF ?_ ?_); decide; conv => whnf)
    | ((with_reducible refine sp_dT ?_ ?_); decide; conv => whnf)
    | ((with_reducible refine sp_d (fun h => ?_) (fun h => ?_)) <;> first | contradiction | (subst h; conv => whnf) | (conv => whnf))
    | ((with_reducible refine sp_d' (fun h => ?_) (fun h => ?_)) <;> first | contradiction | (subst h; conv => whnf) | (conv => whnf))
    | ((with_reducible refine sp_eF ?_ ?_); decide; conv => whnf)
    | ((with_reducible refine sp_eT ?_); conv => whnf)
    | ((with_reducible refine sp_e (fun h => ?_) (fun h => ?_)) <;> first | contradiction | (subst h; conv => whnf) | (conv => whnf))
    | ((with_reducible refine sp_e' (fun h => ?_) (fun h => ?_)) <;> first | contradiction | (subst h; conv => whnf) | (conv => whnf))
    | ((with_reducible refine sp_n (fun h => ?_) (fun h => ?_)) <;> first | contradiction | (subst h; conv => whnf) | (conv => whnf))
    | ((with_reducible refine sp_n' (fun h => ?_) (fun h => ?_)) <;> first | contradiction | (subst h; conv => whnf) | (conv => whnf))
    | ((with_reducible refine sp_nb (fun h => ?_) (fun h => ?_)) <;> first | (exact Bool.noConfusion (Eq.trans (Eq.symm h) (show _ = true by with_reducible assumption))) | (exact Bool.noConfusion (Eq.trans (Eq.symm (show _ = false by with_reducible assumption)) h)) | (conv => whnf))
    | ((with_reducible refine sp_nb' (fun h => ?_) (fun h => ?_)) <;> first | (exact Bool.noConfusion (Eq.trans (Eq.symm h) (show _ = true by with_reducible assumption))) | (exact Bool.noConfusion (Eq.trans (Eq.symm (show _ = false by with_reducible assumption)) h)) | (conv => whnf))
    | ((with_reducible refine sp_b (fun h => ?_) (fun h => ?_)) <;> first | (exact Bool.noConfusion (Eq.trans (Eq.symm h) (show _ = true by with_reducible assumption))) | (exact Bool.noConfusion (Eq.trans (Eq.symm (show _ = false by with_reducible assumption)) h)) | (conv => whnf))
    | ((with_reducible refine sp_b' (fun h => ?_) (fun h => ?_)) <;> first | (exact Bool.noConfusion (Eq.trans (Eq.symm h) (show _ = true by with_reducible assumption))) | (exact Bool.noConfusion (Eq.trans (Eq.symm (show _ = false by with_reducible assumption)) h)) | (conv => whnf))
    | (refine ⟨(rfl : nodupB _ = true), rfl, ?_⟩; conv => whnf)
    | (with_reducible refine bnd2 ?_ ?_)
    | (with_reducible refine bnd2' ?_ ?_)
    | (with_reducible refine bndN ?_ ?_)
    | ((with_reducible refine and_of ?_ ?_); conv => whnf)
    | (refine Exists.intro ({k : Nat // k ≤ hashN b}) (Exists.intro (fun ⟨k, hk⟩ => mkS Try.f103.ntmps [(0, .dat (.seq .bytes b)), (3, .dat (.i (hashTo b k))), (4, .dat (.i k))] []) (Exists.intro (fun ⟨k, hk⟩ => b.length - k) (Exists.intro ⟨0, Nat.zero_le _⟩ (And.intro (SubP.sub (σ := []) ⟨⟨rfl, rfl, rfl⟩, ⟨(wk_dat ?_), (wk_dat ?_), (wk_dat ?_), trivial⟩, trivial⟩) (fun ⟨k, hk⟩ => ?_))))); rotate_right; conv => whnf)
    | (refine Exists.intro ⟨k + 1, ?_⟩ (And.intro ?_ (SubP.sub (σ := []) ⟨⟨rfl, rfl, rfl⟩, ⟨(wk_dat ?_), (wk_dat ?_), (wk_dat ?_), trivial⟩, trivial⟩)))
    | ((with_reducible show awpOps _ _ _ _ _ _); conv => whnf)
    | (intro h; conv => whnf))
  all_goals (repeat (clear hK; clear K1))
  all_goals first
    | (with_reducible assumption)
    | (with_reducible rfl)
    | exact hash_lt (by assumption) (by assumption)
    | omega
    | (dsimp only; omega)
    | exact congrArg (Dat.int .i64) (wrap_id (by omega) (by omega)).symm
    | exact (rfl : Dat.i ((0 : Nat) : Int) = Dat.int .i64 0)
    | (have e := hash_end1 hk (by assumption); rw [← e]; rfl)
    | (have e := hash_end2 hk (by assumption); rw [← e]; rfl)
    | rfl
    | skip
def atI (b : List Int) (n : Int) : Int := if (b.length : Int) < n then b.length else n
def atH (b : List Int) (n : Int) : Int := and64 (IntKind.i64.wrap (IntKind.i64.wrap (IntKind.i64.wrap (hashTo b (hashN b) * 31) + IntKind.i64.wrap (n * 7919)) + 1)) 1073741823
theorem atI_0 {b : List Int} {n : Int} (h : 0 ≤ n) : 0 ≤ atI b n := by unfold atI; split <;> omega
set_option maxRecDepth 100000 in
theorem c_l11At (b : List Int) (n : Int) (hl : b.length ≤ maxLen) : CallsF Try.prog 53 [.dat (.seq .bytes b), .dat (.i n)] false (fun res B => res = .ptr 0 0 ∧ B = [.box [.dat (.seq .bytes b), .dat (.i (atI b n)), .dat (.i (atH b n))]]) := by
  refine CallsF.of_awp tauOk mixOk Try.func53 rfl rfl rfl ?_
  conv => whnf
  repeat' (first
    | ((with_reducible refine Alt.l ?_); conv => whnf)
    | ((with_reducible refine fun (K1 : AX → AState → Prop) hK => ?_); conv => whnf)
    | ((with_reducible show K1 _ _); subst hK; conv => whnf)
    | (with_reducible exact rfl)
    | ((with_reducible refine sp_T ?_); conv => whnf)
    | ((with_reducible refine sp_F ?_); conv => whnf)
    | ((with_reducible refine sp_T' ?_); conv => whnf)
    | ((with_reducible refine sp_F' ?_); conv => whnf)
    | ((with_reducible refine sp_dF ?_ ?_); decide; conv => whnf)
    | ((with_reducible refine sp_dT ?_ ?_); decide; conv => whnf)
    | ((with_reducible refine sp_d (fun h => ?_) (fun h => ?_)) <;> first | contradiction | (subst h; conv => whnf) | (conv => whnf))
    | ((with_reducible refine sp_d' (fun h => ?_) (fun h => ?_)) <;> first | contradiction | (subst h; conv => whnf) | (conv => whnf))
    | ((with_reducible refine sp_eF ?_ ?_); decide; conv => whnf)
    | ((with_reducible refine sp_eT ?_); conv => whnf)
    | ((with_reducible refine sp_e (fun h => ?_) (fun h => ?_)) <;> first | contradiction | (subst h; conv => whnf) | (conv => whnf))
    | ((with_reducible refine sp_e' (fun h => ?_) (fun h => ?_)) <;> first | contradiction | (subst h; conv => whnf) | (conv => whnf))
    | ((with_reducible refine sp_n (fun h => ?_) (fun h => ?_)) <;> first | contradiction | (subst h; conv => whnf) | (conv => whnf))
    | ((with_reducible refine sp_n' (fun h => ?_) (fun h => ?_)) <;> first | contradiction | (subst h; conv => whnf) | (conv => whnf))
    | ((with_reducible refine sp_nb (fun h => ?_) (fun h => ?_)) <;> first | (exact Bool.noConfusion (Eq.trans (Eq.symm h) (show _ = true by with_reducible assumption))) | (exact Bool.noConfusion (Eq.trans (Eq.symm (show _ = false by with_reducible assumption)) h)) | (conv => whnf))
    | ((with_reducible refine sp_nb' (fun h => ?_) (fun h => ?_)) <;> first | (exact Bool.noConfusion (Eq.trans (Eq.symm h) (show _ = true by with_reducible assumption))) | (exact Bool.noConfusion (Eq.trans (Eq.symm (show _ = false by with_reducible assumption)) h)) | (conv => whnf))
    | ((with_reducible refine sp_b (fun h => ?_) (fun h => ?_)) <;> first | (exact Bool.noConfusion (Eq.trans (Eq.symm h) (show _ = true by with_reducible assumption))) | (exact Bool.noConfusion (Eq.trans (Eq.symm (show _ = false by with_reducible assumption)) h)) | (conv => whnf))
    | ((with_reducible refine sp_b' (fun h => ?_) (fun h => ?_)) <;> first | (exact Bool.noConfusion (Eq.trans (Eq.symm h) (show _ = true by with_reducible assumption))) | (exact Bool.noConfusion (Eq.trans (Eq.symm (show _ = false by with_reducible assumption)) h)) | (conv => whnf))
    | (refine ⟨(rfl : nodupB _ = true), rfl, ?_⟩; conv => whnf)
    | (with_reducible refine bnd2 ?_ ?_)
    | (with_reducible refine bnd2' ?_ ?_)
    | (with_reducible refine bndN ?_ ?_)
    | ((with_reducible refine and_of ?_ ?_); conv => whnf)
    | ((with_reducible refine fcI (g := 103) ?_); refine ⟨_, _, c_l01New (_hl := ?_) .., rfl, fun res B hRB => ?_⟩; rotate_right; obtain ⟨rfl, rfl⟩ := hRB; conv => whnf)
    | ((with_reducible show awpOps _ _ _ _ _ _); conv => whnf)
    | (intro h; conv => whnf))
  all_goals (repeat (clear hK; clear K1))
  all_goals first | (with_reducible assumption) | rfl | omega | skip
def numX (b : List Int) (n : Int) : Int := IntKind.i64.wrap (IntKind.i64.wrap (256 * curX b (atI b n) (atH b n)) + curX b (curI b (atI b n)) (curH (atH b n)))
theorem numX_r (b : List Int) (n : Int) : 0 ≤ numX b n ∧ numX b n ≤ 65535 := by
  have h1 := curX_r b (atI b n) (atH b n)
  have h2 := curX_r b (curI b (atI b n)) (curH (atH b n))
  unfold numX
  rw [wrap_id (n := 256 * _) (by omega) (by omega), wrap_id (by omega) (by omega)]; omega
set_option maxRecDepth 100000 in
theorem c_GiveNum (b : List Int) (n : Int) (hn : 0 ≤ n) (hl : b.length ≤ maxLen) : CallsV Try.prog 62 [.dat (.seq .bytes b), .dat (.i n)] (.dat (.i (numX b n))) := by
  refine CallsV.of_awp tauOk mixOk Try.func62 rfl rfl rfl ?_
  conv => whnf
  repeat' (first
    | ((with_reducible refine Alt.l ?_); conv => whnf)
    | ((with_reducible refine fun (K1 : AX → AState → Prop) hK => ?_); conv => whnf)
    | ((with_reducible show K1 _ _); subst hK; conv => whnf)
    | (with_reducible exact rfl)
    | ((with_reducible refine sp_T ?_); conv => whnf)
    | ((with_reducible refine sp_F ?_); conv => whnf)
    | ((with_reducible refine sp_T' ?_); conv => whnf)
    | ((with_reducible refine sp_F' ?_); conv => whnf)
    | ((with_reducible refine sp_dF ?_ ?_); decide; conv => whnf)
    | ((with_reducible refine sp_dT ?_ ?_); decide; conv => whnf)
    | ((with_reducible refine sp_d (fun h => ?_) (fun h => ?_)) <;> first | contradiction | (subst h; conv => whnf) | (conv => whnf))
    | ((with_reducible refine sp_d' (fun h => ?_) (fun h => ?_)) <;> first | contradiction | (subst h; conv => whnf) | (conv => whnf))
    | ((with_reducible refine sp_eF ?_ ?_); decide; conv => whnf)
    | ((with_reducible refine sp_eT ?_); conv => whnf)
    | ((with_reducible refine sp_e (fun h => ?_) (fun h => ?_)) <;> first | contradiction | (subst h; conv => whnf) | (conv => whnf))
    | ((with_reducible refine sp_e' (fun h => ?_) (fun h => ?_)) <;> first | contradiction | (subst h; conv => whnf) | (conv => whnf))
    | ((with_reducible refine sp_n (fun h => ?_) (fun h => ?_)) <;> first | contradiction | (subst h; conv => whnf) | (conv => whnf))
    | ((with_reducible refine sp_n' (fun h => ?_) (fun h => ?_)) <;> first | contradiction | (subst h; conv => whnf) | (conv => whnf))
    | ((with_reducible refine sp_nb (fun h => ?_) (fun h => ?_)) <;> first | (exact Bool.noConfusion (Eq.trans (Eq.symm h) (show _ = true by with_reducible assumption))) | (exact Bool.noConfusion (Eq.trans (Eq.symm (show _ = false by with_reducible assumption)) h)) | (conv => whnf))
    | ((with_reducible refine sp_nb' (fun h => ?_) (fun h => ?_)) <;> first | (exact Bool.noConfusion (Eq.trans (Eq.symm h) (show _ = true by with_reducible assumption))) | (exact Bool.noConfusion (Eq.trans (Eq.symm (show _ = false by with_reducible assumption)) h)) | (conv => whnf))
    | ((with_reducible refine sp_b (fun h => ?_) (fun h => ?_)) <;> first | (exact Bool.noConfusion (Eq.trans (Eq.symm h) (show _ = true by with_reducible assumption))) | (exact Bool.noConfusion (Eq.trans (Eq.symm (show _ = false by with_reducible assumption)) h)) | (conv => whnf))
    | ((with_reducible refine sp_b' (fun h => ?_) (fun h => ?_)) <;> first | (exact Bool.noConfusion (Eq.trans (Eq.symm h) (show _ = true by with_reducible assumption))) | (exact Bool.noConfusion (Eq.trans (Eq.symm (show _ = false by with_reducible assumption)) h)) | (conv => whnf))
    | (refine ⟨(rfl : nodupB _ = true), rfl, ?_⟩; conv => whnf)
    | (with_reducible refine bnd2 ?_ ?_)
    | (with_reducible refine bnd2' ?_ ?_)
    | (with_reducible refine bndN ?_ ?_)
    | ((with_reducible refine and_of ?_ ?_); conv => whnf)
    | ((with_reducible refine fcI (g := 53) ?_); refine ⟨_, _, c_l11At (hl := ?_) .., rfl, fun res B hRB => ?_⟩; rotate_right; obtain ⟨rfl, rfl⟩ := hRB; conv => whnf)
    | ((with_reducible refine gcI (g := 105) ?_); refine ⟨_, _, c_l01Byte (hi := ?_) (hl := ?_) .., fun res B hRB => ?_⟩; rotate_right; obtain ⟨rfl, rfl⟩ := hRB; conv => whnf)
    | ((with_reducible show awpOps _ _ _ _ _ _); conv => whnf)
    | (intro h; conv => whnf))
  all_goals (repeat (clear hK; clear K1))
  all_goals first | (with_reducible assumption) | rfl | exact atI_0 hn | exact curI_0 (atI_0 hn) | omega | skip
def sizeX (b : List Int) (n lo hi : Int) : Int := lo + (numX b n).tmod (hi - lo + 1)
theorem sizeX_r (b : List Int) (n : Int) {lo hi : Int} (h : lo ≤ hi) : lo ≤ sizeX b n lo hi ∧ sizeX b n lo hi ≤ hi := by
  have h1 := numX_r b n
  have h2 := Int.tmod_nonneg (hi - lo + 1) h1.1
  have h3 := Int.tmod_lt_of_pos (numX b n) (show 0 < hi - lo + 1 by omega)
  unfold sizeX; omega
theorem size_e {b : List Int} {n lo hi : Int} (h1 : 0 ≤ lo) (h2 : lo ≤ hi) (h3 : hi ≤ 1000000) : IntKind.i64.wrap (lo + (numX b n).tmod (IntKind.i64.wrap (IntKind.i64.wrap (hi - lo) + 1))) = sizeX b n lo hi := by
  have h := sizeX_r b n h2
  unfold sizeX at h ⊢
  rw [wrap_id (n := hi - lo) (by omega) (by omega), wrap_id (n := hi - lo + 1) (by omega) (by omega), wrap_id (by omega) (by omega)]
theorem size_z {lo hi : Int} (h1 : 0 ≤ lo) (h2 : lo ≤ hi) (h3 : hi ≤ 1000000) : IntKind.i64.wrap (IntKind.i64.wrap (hi - lo) + 1) ≠ 0 := by
  rw [wrap_id (n := hi - lo) (by omega) (by omega), wrap_id (n := hi - lo + 1) (by omega) (by omega)]; omega
set_option maxRecDepth 100000 in
theorem c_GiveSize (b : List Int) (n lo hi : Int) (hn : 0 ≤ n) (h1 : 0 ≤ lo) (h2 : lo ≤ hi) (h3 : hi ≤ 1000000) (hl : b.length ≤ maxLen) : CallsV Try.prog 13 [.dat (.seq .bytes b), .dat (.i n), .dat (.i lo), .dat (.i hi)] (.dat (.i (sizeX b n lo hi))) := by
  refine CallsV.of_awp tauOk mixOk Try.func13 rfl rfl rfl ?_
  conv => whnf
  repeat' (first
    | ((with_reducible refine Alt.l ?_); conv => whnf)
    | ((with_reducible refine fun (K1 : AX → AState → Prop) hK => ?_); conv => whnf)
    | ((with_reducible show K1 _ _); subst hK; conv => whnf)
    | (with_reducible exact rfl)
    | ((with_reducible refine sp_T ?_); conv => whnf)
    | ((with_reducible refine sp_F ?_); conv => whnf)
    | ((with_reducible refine sp_T' ?_); conv => whnf)
    | ((with_reducible refine sp_F' ?_); conv => whnf)
    | ((with_reducible refine sp_dF ?_ ?_); decide; conv => whnf)
    | ((with_reducible refine sp_dT ?_ ?_); decide; conv => whnf)
    | ((with_reducible refine sp_d (fun h => ?_) (fun h => ?_)) <;> first | contradiction | (subst h; conv => whnf) | (conv => whnf))
    | ((with_reducible refine sp_d' (fun h => ?_) (fun h => ?_)) <;> first | contradiction | (subst h; conv => whnf) | (conv => whnf))
    | ((with_reducible refine sp_eF ?_ ?_); decide; conv => whnf)
    | ((with_reducible refine sp_eT ?_); conv => whnf)
    | ((with_reducible refine sp_e (fun h => ?_) (fun h => ?_)) <;> first | contradiction | (subst h; conv => whnf) | (conv => whnf))
    | ((with_reducible refine sp_e' (fun h => ?_) (fun h => ?_)) <;> first | contradiction | (subst h; conv => whnf) | (conv => whnf))
    | ((with_reducible refine sp_n (fun h => ?_) (fun h => ?_)) <;> first | contradiction | (subst h; conv => whnf) | (conv => whnf))
    | ((with_reducible refine sp_n' (fun h => ?_) (fun h => ?_)) <;> first | contradiction | (subst h; conv => whnf) | (conv => whnf))
    | ((with_reducible refine sp_nb (fun h => ?_) (fun h => ?_)) <;> first | (exact Bool.noConfusion (Eq.trans (Eq.symm h) (show _ = true by with_reducible assumption))) | (exact Bool.noConfusion (Eq.trans (Eq.symm (show _ = false by with_reducible assumption)) h)) | (conv => whnf))
    | ((with_reducible refine sp_nb' (fun h => ?_) (fun h => ?_)) <;> first | (exact Bool.noConfusion (Eq.trans (Eq.symm h) (show _ = true by with_reducible assumption))) | (exact Bool.noConfusion (Eq.trans (Eq.symm (show _ = false by with_reducible assumption)) h)) | (conv => whnf))
    | ((with_reducible refine sp_b (fun h => ?_) (fun h => ?_)) <;> first | (exact Bool.noConfusion (Eq.trans (Eq.symm h) (show _ = true by with_reducible assumption))) | (exact Bool.noConfusion (Eq.trans (Eq.symm (show _ = false by with_reducible assumption)) h)) | (conv => whnf))
    | ((with_reducible refine sp_b' (fun h => ?_) (fun h => ?_)) <;> first | (exact Bool.noConfusion (Eq.trans (Eq.symm h) (show _ = true by with_reducible assumption))) | (exact Bool.noConfusion (Eq.trans (Eq.symm (show _ = false by with_reducible assumption)) h)) | (conv => whnf))
    | (refine ⟨(rfl : nodupB _ = true), rfl, ?_⟩; conv => whnf)
    | (with_reducible refine bnd2 ?_ ?_)
    | (with_reducible refine bnd2' ?_ ?_)
    | (with_reducible refine bndN ?_ ?_)
    | ((with_reducible refine and_of ?_ ?_); conv => whnf)
    | ((with_reducible refine pcI (g := 62) ?_); refine ⟨_, c_GiveNum (hn := ?_) (hl := ?_) .., rfl, ?_⟩; rotate_right; conv => whnf)
    | ((with_reducible show Exists _); refine Exists.intro _ (And.intro (c_GiveNum (hn := ?_) (hl := ?_) ..) (And.intro rfl ?_)); rotate_right; conv => whnf)
    | ((with_reducible show awpOps _ _ _ _ _ _); conv => whnf)
    | (intro h; conv => whnf))
  all_goals (repeat (clear hK; clear K1))
  all_goals first | (with_reducible assumption) | exact congrArg (Dat.int .i64) (size_e h1 h2 h3).symm | exact size_z h1 h2 h3 | exact size_z h1 h2 h3 (by with_reducible assumption) | omega | skip
end Vg
