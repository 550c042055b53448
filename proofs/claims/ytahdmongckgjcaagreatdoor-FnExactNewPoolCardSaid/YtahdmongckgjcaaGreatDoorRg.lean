/- A region without loads of slices is walked operation by operation. No condition. -/
import Derived.Test.YtahdmongckgjcaaGreatDoorBase
namespace Vg
open Go Go.Proofs
def slLoad (τ : Tys) (o : Oper) : Bool := match o.op with
  | .load T _ => match τ T with
    | some i => match i.desc with
      | .slice _ _ => true
      | _ => false
    | none => true
  | _ => false
theorem markB_no {τ : Tys} {S : AState} {o : Oper} (h : slLoad τ o = false) : markB τ S o = false := by
  cases hm : markB τ S o with
  | false => rfl
  | true =>
    exfalso
    unfold markB at hm
    unfold slLoad at h
    split at hm
    · rename_i T p ho
      rw [ho] at h
      simp only at h
      split at hm
      · split at hm
        · rename_i i hi ht
          rw [ht] at h
          simp only at h
          split at hm
          · rename_i hd _
            rw [hd] at h
            cases h
          · cases hm
        · cases hm
      · cases hm
    · cases hm
theorem awpOps_cons {P : Program} {τ : Tys} {ops : Array Oper} (o : Oper) (rest : List Oper) (S : AState) (K : AState → Prop) : awpOps P τ ops [o] S (fun S => awpOps P τ ops rest S K) = awpOps P τ ops (o :: rest) S K := by
  simp only [awpOps]
theorem awpL_eq {P : Program} {τ : Tys} {ops : Array Oper} : ∀ (n : Nat) (l : List Oper), l.length ≤ n → ∀ (S : AState) (K : AState → Prop), l.all (fun o => !slLoad τ o) = true → awpL P τ ops l S K = awpOps P τ ops l S K
  | _, [], _, S, K, _ => by simp only [awpL, awpOps]
  | _, [o], _, S, K, _ => by simp only [awpL]
  | _, [o, o'], _, S, K, _ => by simp only [awpL]
  | 0, o1 :: o2 :: o3 :: rest, h, S, K, _ => by simp at h
  | n + 1, o1 :: o2 :: o3 :: rest, h, S, K, ha => by
    rw [List.all_cons, Bool.and_eq_true] at ha
    have h1 : markB τ S o1 = false := markB_no (by simpa using ha.1)
    have ih : (fun S => awpL P τ ops (o2 :: o3 :: rest) S K) = fun S => awpOps P τ ops (o2 :: o3 :: rest) S K :=
      funext fun S => awpL_eq n (o2 :: o3 :: rest) (by simp at h ⊢; omega) S K ha.2
    rw [awpL, h1, ih, awpOps_cons]
theorem awp_rg {P : Program} {τ : Tys} {i : Nat} {ops : Array Oper} {S : AState} {K : AX → AState → Prop} (h : ops.toList.all (fun o => !slLoad τ o) = true) (hA : awpOps P τ ops ops.toList S fun S => forceBs1 ops.toList S (K .normal)) : awp P τ (.region i ops false) S K := by
  rw [awp, awpL_eq _ _ (Nat.le_refl _) _ _ h]; exact hA
end Vg
