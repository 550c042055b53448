/- Operations are read from their names, instructions are printed and read by the program: contracts. No condition. -/
import Derived.Test.YtgbjdifegilniaaGreatDoorFtxK
namespace Vg
open Go Go.Proofs
set_option maxRecDepth 100000
set_option maxHeartbeats 40000000
/-! ### the operation of a name -/
structure OxI (s : ByteArray) (k : Nat) : Prop where
  le : k ≤ 16
  eq : t6 s = opX s k (16 - k)
theorem ox_start (s : ByteArray) : OxI s 0 := ⟨by decide, rfl⟩
theorem ox_y {s : ByteArray} {k : Nat} (h : OxI s k) (hk : (k : Int) + 1 ≤ 16) (he : (x7 ((k : Int) + 1)).toList == s.toList) : t6 s = (k : Int) + 1 := by
  rw [h.eq, show 16 - k = (16 - (k + 1)) + 1 from by omega, opX, if_pos (show r0 (j8 ((k : Int) + 1)) = s from str_eq he)]
theorem ox_n {s : ByteArray} {k : Nat} (h : OxI s k) (hk : (k : Int) + 1 ≤ 16) (he : ((x7 ((k : Int) + 1)).toList == s.toList) = false) : OxI s (k + 1) :=
  ⟨by omega, by rw [h.eq, show 16 - k = (16 - (k + 1)) + 1 from by omega, opX, if_neg (show ¬ r0 (j8 ((k : Int) + 1)) = s from str_ne he)]⟩
theorem ox_e {s : ByteArray} {k : Nat} (h : OxI s k) (hk : ¬ (k : Int) + 1 ≤ 16) : t6 s = 0 := by
  rw [h.eq, show 16 - k = 0 from by omega, opX]
theorem i_OpOf (s : ByteArray) : CallsV Tryz.prog 46 [.dat (.str s)] (.dat (.i (t6 s))) := by
  refine oV Tryz.func46 ⟨?_⟩
  repeat' (first | ((with_reducible refine fun (K1 : KT) hK => ?_); (with_reducible refine j5 ?_ ?_); exact rfl; conv => whnf) | ((with_reducible refine fun (K1 : KT) hK => ?_); conv => whnf) | ((with_reducible show K1 _ _); subst hK; conv => whnf) | (with_reducible exact rfl) | ((with_reducible refine d7 (fun h => ?_) (fun h => ?_)) <;> first | contradiction | (subst h; conv => whnf) | (conv => whnf)) | ((with_reducible refine vA (fun h => ?_) (fun h => ?_)) <;> first | (exact u2 h asmR) | (exact u2 asmR h) | (conv => whnf)) | (refine ⟨(rfl : d4 _ = true), rfl, ?_⟩; conv => whnf) | (refine Exists.intro ({k : Nat // OxI s k}) (Exists.intro (fun ⟨k, hk⟩ => x5 Tryz.f46.ntmps [(0, .dat (.str s)), (3, .dat (.i ((k : Int) + 1)))] []) (Exists.intro (fun ⟨k, hk⟩ => 16 - k) (Exists.intro ⟨0, ox_start s⟩ (And.intro (SubP.sub (σ := []) ⟨⟨rfl, rfl, rfl⟩, ⟨j0 ?_, j0 ?_, trivial⟩, trivial⟩) (fun ⟨k, hk⟩ => ?_))))); rotate_right; conv => whnf) | (refine Exists.intro (⟨k + 1, ?_⟩ : {k : Nat // OxI s k}) (And.intro ?_ (SubP.sub (σ := []) ⟨⟨rfl, rfl, rfl⟩, ⟨j0 ?_, j0 ?_, trivial⟩, trivial⟩))) | ((with_reducible first | refine s0 (g := 51) ?_ | show Exists _); refine ⟨_, pP (h1 := ?_) (h2 := ?_) .., rfl, ?_⟩; rotate_right; conv => whnf) | ((with_reducible show d3 _ _ _ _ _ _); conv => whnf) | (intro h; conv => whnf))
  all_goals repeat clear hK K1
  all_goals first | (with_reducible assumption) | exact ox_n hk asmR asmR | exact congrArg (Dat.int .i64) (ox_y hk asmR asmR) | exact congrArg (Dat.int .i64) (ox_e hk asmR) | ((with_reducible show (_ : Nat) < _); (dsimp only; omega)) | exact congrArg (Dat.int .i64) (z1 omG omG).symm | omega | exact rfl | skip
/-! ### an instruction is printed -/
theorem insT_0 {i : V.Ins} {w n : Int} (h : (inP w 2 8 && inP n 1 40) = false) : y7 i w n = ⟨#[]⟩ := if_neg (by rw [h]; simp)
theorem insT_1 {i : V.Ins} {w n : Int} (h : p5 i w n = false) : y7 i w n = ⟨#[]⟩ := if_neg (by rw [h]; simp)
theorem cD {i : V.Ins} {w n : Int} (h : (inP w 2 8 && inP n 1 40) = true) (h2 : p5 i w n = true) : y7 i w n = g5 i := if_pos (by rw [h, h2]; rfl)
structure InB (op a b c : Int) : Prop where
  oo : 1 ≤ op ∧ op ≤ 14
  aa : 0 ≤ a ∧ a < 1000
  bb : 0 ≤ b ∧ b ≤ 99999
  c3 : op = 3 → 3 ≤ c ∧ c ≤ 16
  r2 : op = 2 ∨ op = 3 ∨ op = 7 ∨ op = 8 → b < 1000
theorem inB {op a b c w n : Int} (h : (inP w 2 8 && inP n 1 40) = true) (h2 : p5 ⟨op, a, b, c⟩ w n = true) : InB op a b c := by
  have ho := uX h2
  rw [Bool.and_eq_true] at h
  have hw : w ≤ 8 := by have := h.1; simp [inP] at this; omega
  have hn : n ≤ 40 := by have := h.2; simp [inP] at this; omega
  unfold p5 at h2
  simp only at h2
  by_cases k1 : op = 1
  · rw [if_pos k1, Bool.and_eq_true, Bool.and_eq_true] at h2
    have q := yR hw h2.1.2
    have q2 := h2.1.1
    simp [regP, inP] at q2
    exact ⟨ho, by omega, by omega, fun _ => by omega, fun _ => by omega⟩
  · rw [if_neg k1] at h2
    by_cases k2 : op = 2 ∨ op = 7 ∨ op = 8
    · rw [if_pos k2] at h2
      simp [regP, inP] at h2
      exact ⟨ho, by omega, by omega, fun _ => by omega, fun _ => by omega⟩
    · rw [if_neg k2] at h2
      by_cases k3 : op = 3
      · rw [if_pos k3] at h2
        simp [regP, inP] at h2
        exact ⟨ho, by omega, by omega, fun _ => by omega, fun _ => by omega⟩
      · rw [if_neg k3] at h2
        by_cases k4 : op = 4 ∨ op = 5 ∨ op = 6 ∨ op = 13
        · rw [if_pos k4] at h2
          simp [regP, inP] at h2
          exact ⟨ho, by omega, by omega, fun _ => by omega, fun _ => by omega⟩
        · rw [if_neg k4] at h2
          by_cases k5 : op = 9 ∨ op = 11
          · rw [if_pos k5] at h2
            simp [inP] at h2
            exact ⟨ho, by omega, by omega, fun _ => by omega, fun _ => by omega⟩
          · rw [if_neg k5] at h2
            by_cases k6 : op = 10
            · rw [if_pos k6] at h2
              simp [regP, inP] at h2
              exact ⟨ho, by omega, by omega, fun _ => by omega, fun _ => by omega⟩
            · rw [if_neg k6] at h2
              by_cases k7 : op = 12 ∨ op = 14
              · rw [if_pos k7] at h2
                simp at h2
                exact ⟨ho, by omega, by omega, fun _ => by omega, fun _ => by omega⟩
              · rw [if_neg k7] at h2; cases h2
theorem kP (op : Int) : (u7 op).size ≤ 5 := by
  have : ∀ l ∈ insWs ++ [[]], l.length ≤ 5 := by decide
  refine this (insWs.getD (op - 1).toNat []) ?_
  rw [List.getD_eq_getElem?_getD]
  cases e : insWs[(op - 1).toNat]? with
  | none => simp
  | some x => exact List.mem_append_left _ (List.mem_of_getElem? e)
theorem pV (op : Int) : (x7 op).size ≤ 7 := by
  have : ∀ l ∈ opNs ++ [[]], l.length ≤ 7 := by decide
  refine this (opNs.getD (op - 1).toNat []) ?_
  rw [List.getD_eq_getElem?_getD]
  cases e : opNs[(op - 1).toNat]? with
  | none => simp
  | some x => exact List.mem_append_left _ (List.mem_of_getElem? e)
section
variable {op a b c w n : Int}
theorem fi_3 (h : (inP w 2 8 && inP n 1 40) = true) (h2 : p5 ⟨op, a, b, c⟩ w n = true) (k : op = 3) : y7 ⟨op, a, b, c⟩ w n = x7 c ++ { data := #[32] } ++ o5 a ++ { data := #[32] } ++ o5 b := by
  rw [cD h h2]; unfold g5; rw [if_pos k]; rfl
theorem fi_2 (h : (inP w 2 8 && inP n 1 40) = true) (h2 : p5 ⟨op, a, b, c⟩ w n = true) (k : op = 2 ∨ op = 7 ∨ op = 8) : y7 ⟨op, a, b, c⟩ w n = u7 op ++ { data := #[32] } ++ o5 a ++ { data := #[32] } ++ o5 b := by
  rw [cD h h2]; unfold g5; rw [if_neg (show ¬ op = 3 by omega), if_pos k]; rfl
theorem fi_1 (h : (inP w 2 8 && inP n 1 40) = true) (h2 : p5 ⟨op, a, b, c⟩ w n = true) (k : op = 1 ∨ op = 10) : y7 ⟨op, a, b, c⟩ w n = u7 op ++ { data := #[32] } ++ o5 a ++ { data := #[32] } ++ s1 b := by
  rw [cD h h2]; unfold g5; rw [if_neg (show ¬ op = 3 by omega), if_neg (show ¬ (op = 2 ∨ op = 7 ∨ op = 8) by omega), if_pos k]; rfl
theorem fi_4 (h : (inP w 2 8 && inP n 1 40) = true) (h2 : p5 ⟨op, a, b, c⟩ w n = true) (k : op = 4 ∨ op = 5 ∨ op = 6 ∨ op = 13) : y7 ⟨op, a, b, c⟩ w n = u7 op ++ { data := #[32] } ++ o5 a := by
  rw [cD h h2]; unfold g5; rw [if_neg (show ¬ op = 3 by omega), if_neg (show ¬ (op = 2 ∨ op = 7 ∨ op = 8) by omega), if_neg (show ¬ (op = 1 ∨ op = 10) by omega), if_pos k]; rfl
theorem fi_9 (h : (inP w 2 8 && inP n 1 40) = true) (h2 : p5 ⟨op, a, b, c⟩ w n = true) (k : op = 9 ∨ op = 11) : y7 ⟨op, a, b, c⟩ w n = u7 op ++ { data := #[32] } ++ s1 b := by
  rw [cD h h2]; unfold g5; rw [if_neg (show ¬ op = 3 by omega), if_neg (show ¬ (op = 2 ∨ op = 7 ∨ op = 8) by omega), if_neg (show ¬ (op = 1 ∨ op = 10) by omega), if_neg (show ¬ (op = 4 ∨ op = 5 ∨ op = 6 ∨ op = 13) by omega), if_pos k]; rfl
theorem fi_0 (h : (inP w 2 8 && inP n 1 40) = true) (h2 : p5 ⟨op, a, b, c⟩ w n = true) (k : ¬ op = 3) (k2 : ¬ (op = 2 ∨ op = 7 ∨ op = 8)) (k3 : ¬ (op = 1 ∨ op = 10)) (k4 : ¬ (op = 4 ∨ op = 5 ∨ op = 6 ∨ op = 13)) (k5 : ¬ (op = 9 ∨ op = 11)) : y7 ⟨op, a, b, c⟩ w n = u7 op := by
  rw [cD h h2]; unfold g5; rw [if_neg k, if_neg k2, if_neg k3, if_neg k4, if_neg k5]
end
theorem fi_r (b : Int) (h : (s1 b).size ≤ 7) : (o5 b).size ≤ 8 := by
  unfold o5
  rw [y8]
  have : (ByteArray.mk #[114]).size = 1 := rfl
  omega
theorem fi_sz {a b : Nat} (h : a ≤ 5) (hb : b ≤ 100) : a + b ≤ 9223372036854775807 := by omega
theorem qP (op a b c w n : Int) : CallsV Tryz.prog 18 [.agg [.dat (.i op), .dat (.i a), .dat (.i b), .dat (.i c)], .dat (.i w), .dat (.i n)] (.dat (.str (y7 ⟨op, a, b, c⟩ w n))) := by
  refine oV Tryz.func18 ⟨?_⟩
  repeat' (first | ((with_reducible refine fun (K1 : KT) hK => ?_); (with_reducible refine j5 ?_ ?_); exact rfl; conv => whnf) | ((with_reducible refine Alt.l ?_); conv => whnf) | ((with_reducible refine fun (K1 : KT) hK => ?_); conv => whnf) | ((with_reducible show K1 _ _); subst hK; conv => whnf) | (with_reducible exact rfl) | ((with_reducible refine a8 ?_); conv => whnf) | ((with_reducible refine m9 ?_); conv => whnf) | ((with_reducible refine f9 ?_); conv => whnf) | ((with_reducible refine tN ?_); conv => whnf) | ((with_reducible refine uA (fun h => ?_) (fun h => ?_)) <;> first | contradiction | (subst h; conv => whnf) | (conv => whnf)) | ((with_reducible refine e9 (fun h => ?_) (fun h => ?_)) <;> first | (exact u2 h asmR) | (exact u2 asmR h) | (conv => whnf)) | ((with_reducible refine lD (fun h => ?_) (fun h => ?_)) <;> first | (exact u2 h asmR) | (exact u2 asmR h) | (conv => whnf)) | (refine ⟨(rfl : d4 _ = true), rfl, ?_⟩; conv => whnf) | refine p3 ⟨?_⟩ ⟨?_⟩ | ((with_reducible first | refine s0 (g := 49) ?_ | show Exists _); refine ⟨_, zX .., rfl, ?_⟩; rotate_right; conv => whnf) | ((with_reducible first | refine s0 (g := 50) ?_ | show Exists _); refine ⟨_, eY .., rfl, ?_⟩; rotate_right; conv => whnf) | ((with_reducible first | refine s0 (g := 51) ?_ | show Exists _); refine ⟨_, pP (h1 := ?_) (h2 := ?_) .., rfl, ?_⟩; rotate_right; conv => whnf) | ((with_reducible first | refine s0 (g := 52) ?_ | show Exists _); refine ⟨_, qdn (h0 := ?_) (h1 := ?_) .., rfl, ?_⟩; rotate_right; conv => whnf) | ((with_reducible first | refine s0 (g := 45) ?_ | show Exists _); refine ⟨_, dY (h0 := ?_) (h1 := ?_) .., rfl, ?_⟩; rotate_right; conv => whnf) | ((with_reducible first | refine s0 (g := 40) ?_ | show Exists _); refine ⟨_, wG (h0 := ?_) (h1 := ?_) .., rfl, ?_⟩; rotate_right; conv => whnf) | ((with_reducible show d3 _ _ _ _ _ _); conv => whnf) | (intro h; conv => whnf))
  all_goals repeat clear hK K1
  all_goals first | (with_reducible assumption) | exact congrArg Dat.str (insT_0 asmR) | exact congrArg Dat.str (insT_1 asmR) | (have e := inB (by assumption) (show p5 _ w n = true by assumption); first | exact e.oo.1 | exact e.oo.2 | exact e.aa.1 | exact e.aa.2 | exact e.bb.1 | (have q := e.bb; omega) | (have q := e.c3 omG; omega) | exact e.r2 omG | exact congrArg Dat.str (fi_3 (by assumption) (by assumption) omG) | exact congrArg Dat.str (fi_2 (by assumption) (by assumption) omG) | exact congrArg Dat.str (fi_1 (by assumption) (by assumption) omG) | exact congrArg Dat.str (fi_4 (by assumption) (by assumption) omG) | exact congrArg Dat.str (fi_9 (by assumption) (by assumption) omG) | exact congrArg Dat.str (fi_0 (by assumption) (by assumption) omG omG omG omG omG) | ((with_reducible show (_ : Nat) ≤ maxLen); (try simp only [y8]); have q1 := kP; have q2 := pV c; have q3 := gU e.aa.1 e.aa.2; have q5 : (ByteArray.mk #[32]).size = 1 := rfl; have hm : maxLen = 9223372036854775807 := rfl; have q4 := fF (n := b) (by have := e.bb; omega) e.bb.2; have q6 : (o5 b).size ≤ 8 := fi_r b q4; first | omega | (rw [hm]; exact fi_sz (kP _) omG) | (have r1 := q1 1; have r2 := q1 2; have r4 := q1 4; have r5 := q1 5; have r6 := q1 6; have r7 := q1 7; have r8 := q1 8; have r9 := q1 9; have r11 := q1 11; have r10 := q1 10; have r13 := q1 13; omega))) | omega | decide | skip
end Vg
