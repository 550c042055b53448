/- The path of a test, step by step: plain law behind pathFor and PathFor. No condition. -/
import Derived.Test.YtfjkpndogncdcaaGreatDoorEvI
import Derived.Test.YtfjkpndogncdcaaGreatDoorPathW
namespace Vg
open Go Go.Proofs
noncomputable def x7 (p : V.Prog) (s0 : V.Path) (f : Nat) (x : List Int) : V.Path := dI p (r0 x) f s0
theorem qbc {t u : V.Term} {n : Nat} (h : u ∈ List.replicate n t) : u = t := (List.mem_replicate.1 h).2
theorem qgx {p : V.Prog} (hp : f4 p = true) : PX p (g7 p) := by
  have q := (qt_tq hp).c 0 (zero_word (progP_w hp))
  exact ⟨qn6 hp, ⟨fun t ht => (qbc ht) ▸ q, fun t ht => (qbc ht) ▸ q, (fun t ht => nomatch ht), (fun t ht => nomatch ht)⟩, ⟨by show (0 : Int) <= 0 /\ (0 : Int) <= 9; decide, fun x hx => nomatch hx⟩⟩
structure PfI (p : V.Prog) (x : List Int) (fuel : Int) (q : Nat × V.Path) : Prop where
  kf : (q.1 : Int) <= fuel
  hl : InOk p x
  hx : PX p q.2
  hc : d7 (r0 x) q.2 = true
  eq : x7 p (g7 p) fuel.toNat x = dI p (r0 x) (fuel.toNat - q.1) q.2
section
variable {p : V.Prog} {x : List Int} {fuel : Int} {k : Nat} {s : V.Path}
theorem pf_0 (hi : s8 p x = true) (hf : 0 <= fuel) : PfI p x fuel (0, g7 p) := by
  obtain ⟨hp, hl⟩ := mB hi
  exact ⟨hf, hl, qgx hp, rfl, rfl⟩
theorem pf_end (h : PfI p x fuel (k, s)) (hk : ¬ (k : Int) < fuel) : x7 p (g7 p) fuel.toNat x = s := by
  have h1 := h.kf
  have h2 := h.eq
  dsimp only at h1 h2
  rw [h2, show fuel.toNat - k = 0 by omega]; rfl
theorem pf_s (h : PfI p x fuel (k, s)) (hk : (k : Int) < fuel) : x7 p (g7 p) fuel.toNat x = if (z1 p s).length = 0 then s else dI p (r0 x) (fuel.toNat - (k + 1)) (bC p (r0 x) s) := by
  have h2 := h.eq
  dsimp only at h2
  rw [h2, show fuel.toNat - k = (fuel.toNat - (k + 1)) + 1 by omega, dI]
theorem pf_b (h : PfI p x fuel (k, s)) (hk : (k : Int) < fuel) (h0 : (z1 p s).length = 0) : x7 p (g7 p) fuel.toNat x = s := by
  rw [pf_s h hk, if_pos h0]
theorem pf_n (h : PfI p x fuel (k, s)) (hk : (k : Int) < fuel) (h0 : (z1 p s).length ≠ 0) : PfI p x fuel (k + 1, bC p (r0 x) s) := by
  refine ⟨by show ((k + 1 : Nat) : Int) <= fuel; omega, h.hl, vM h.hx h.hl h.hc h0, (qD h.hx h.hl h.hc h0).2.1, ?_⟩
  rw [pf_s h hk, if_neg h0]
end
end Vg
