/- Structs of four numbers are compared number by number. Conditions: the program's facts on the type. -/
import Derived.Test.YtnjkencoohaheaaExi
import Derived.Laws.StructEq
namespace Vg
open Go

theorem aggEq4 {P : Program} {T t : Nat} {fs : Array Field} {f0 f1 f2 f3 : Field} (hu : P.underlying T = some (.struct fs)) (hfs : fs = #[f0, f1, f2, f3]) (hg : P.eqGuardType P.depth T = false) (hs : P.stoodInHeld T = false)
    (ht : P.underlying t = some (.int .i64)) (hn : f0.name ≠ "_" ∧ f1.name ≠ "_" ∧ f2.name ≠ "_" ∧ f3.name ≠ "_")
    (h0 : f0.type = t ∧ f1.type = t ∧ f2.type = t ∧ f3.type = t) (ho : f0.offset = 0 ∧ f1.offset = 1 ∧ f2.offset = 2 ∧ f3.offset = 3) : AggEq P T 4 := by
  intro x y xs ys w hx hy
  obtain ⟨a0, a1, a2, a3, rfl⟩ : ∃ a0 a1 a2 a3, xs = [a0, a1, a2, a3] := by
    match xs, hx with
    | [a0, a1, a2, a3], _ => exact ⟨a0, a1, a2, a3, rfl⟩
  obtain ⟨b0, b1, b2, b3, rfl⟩ : ∃ b0 b1 b2 b3, ys = [b0, b1, b2, b3] := by
    match ys, hy with
    | [b0, b1, b2, b3], _ => exact ⟨b0, b1, b2, b3, rfl⟩
  have hf : P.fieldsOf T = #[f0, f1, f2, f3] := by simp only [Program.fieldsOf, hu, hfs]
  have hS : P.underlying T = some (.struct (P.fieldsOf T)) := by rw [hf, hu, hfs]
  have hp : ∀ (w : World) (cs : Array Value) (f : Field) (v : Value), f.type = t → cs[f.offset]? = some v → (part f.type cs f.offset).run P w = .ok v w := by
    intro w cs f v h1 h2
    have hi : (isAgg t).run P w = .ok false w := by simp [isAgg, run_underlying ht]
    unfold part
    rw [h1]
    simp [hi, h2]
  obtain ⟨n0, n1, n2, n3⟩ := hn
  obtain ⟨t0, t1, t2, t3⟩ := h0
  obtain ⟨o0, o1, o2, o3⟩ := ho
  have key : (Op.equalIn 10000 T (.agg #[.int .i64 a0, .int .i64 a1, .int .i64 a2, .int .i64 a3]) (.agg #[.int .i64 b0, .int .i64 b1, .int .i64 b2, .int .i64 b3])).run P w = .ok (decide ([a0, a1, a2, a3] = [b0, b1, b2, b3])) w := by
    rw [show (10000 : Nat) = 9999 + 1 from rfl, run_equalIn_agg w 9999 T _ _ hS hs, hf]
    simp only [Op.eqFields, if_pos n0, if_pos n1, if_pos n2, if_pos n3, Sem.run_bind, ne_eq]
    rw [hp w _ f0 (.int .i64 a0) t0 (by rw [o0]; rfl), Result.andThen_ok, hp w _ f0 (.int .i64 b0) t0 (by rw [o0]; rfl), Result.andThen_ok, t0, show (9999 : Nat) = 9998 + 1 from rfl, run_equalIn_int w 9998 t .i64 .i64 a0 b0 ht, Result.andThen_ok]
    by_cases e0 : a0 = b0
    · subst e0
      simp only [beq_self_eq_true, Bool.not_true, Bool.false_eq_true, if_false, Sem.run_bind]
      rw [hp w _ f1 (.int .i64 a1) t1 (by rw [o1]; rfl), Result.andThen_ok, hp w _ f1 (.int .i64 b1) t1 (by rw [o1]; rfl), Result.andThen_ok, t1, run_equalIn_int w 9998 t .i64 .i64 a1 b1 ht, Result.andThen_ok]
      by_cases e1 : a1 = b1
      · subst e1
        simp only [beq_self_eq_true, Bool.not_true, Bool.false_eq_true, if_false, Sem.run_bind]
        rw [hp w _ f2 (.int .i64 a2) t2 (by rw [o2]; rfl), Result.andThen_ok, hp w _ f2 (.int .i64 b2) t2 (by rw [o2]; rfl), Result.andThen_ok, t2, run_equalIn_int w 9998 t .i64 .i64 a2 b2 ht, Result.andThen_ok]
        by_cases e2 : a2 = b2
        · subst e2
          simp only [beq_self_eq_true, Bool.not_true, Bool.false_eq_true, if_false, Sem.run_bind]
          rw [hp w _ f3 (.int .i64 a3) t3 (by rw [o3]; rfl), Result.andThen_ok, hp w _ f3 (.int .i64 b3) t3 (by rw [o3]; rfl), Result.andThen_ok, t3, run_equalIn_int w 9998 t .i64 .i64 a3 b3 ht, Result.andThen_ok]
          by_cases e3 : a3 = b3
          · subst e3; simp
          · simp [e3]
        · simp [e2]
      · simp [e1]
    · simp [e0]
  constructor
  · simp only [vI, List.map_cons, List.map_nil, Sem.run_bind]
    rw [run_eqGuard_agg w .eql T x y _ _ hg, Result.andThen_ok, run_eql_struct, key]; rfl
  · simp only [vI, List.map_cons, List.map_nil, Sem.run_bind]
    rw [run_eqGuard_agg w .neq T x y _ _ hg, Result.andThen_ok, run_neq_struct, key]; rfl
end Vg
