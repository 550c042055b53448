/- Code. Condition: the table of types is the program's; orders are mixed. -/
import Derived.Test.YtlopkgjiccppfaaDoorDrawR
import Derived.Test.YtlopkgjiccppfaaDoorMarkC
namespace Vg
open Go

section
variable {P : Program} {τ : Tys} {Im Im' : Nat → Nat → Prop} {ρ ρ' ρ2 : Rho} {h h' : Array Obj} {w w' : World}
variable {w0 : World} {G : GP} {Im0 : Nat → Nat → Prop} {S : AState} {a : Act} {n : Nat} {tm : Nat → AV} {blk : Nat → Option Blk}
variable [hT : Nonempty (TabH w0.heap Im0)]

/-! ### code -/
def AX.toExit : AX → Exit
  | .normal => .normal
  | .exit i => .exit i
  | .goto l => .goto l
  | .ret => .ret

theorem awp_sound (hτ : TysOk P τ) (hm : P.follows .mixedOrders = true) : ∀ (c : Code) (S : AState) (K : AX → AState → Prop) (Q : Exit → Act → World → Prop) (a : Act) (w : World), awp P τ c S K → RelE w0 G Im0 S a w →
    (∀ e S' a' w', K e S' → RelE w0 G Im0 S' a' w' → Q e.toExit a' w') → c.wp P Q a w := by
  intro c
  induction c with
  | skip => intro S K Q a w h hR hn; exact wp_skip (hn .normal S a w h hR)
  | region id ops draw =>
    intro S K Q a w h hR hn
    cases draw with
    | false =>
      simp only [awp, forceBs1_eq] at h
      exact wp_region_list (awpL_sound hτ ops.toList S (K .normal) a w h hR fun S' a' w' hS hR' => hn .normal S' a' w' hS hR')
    | true =>
      simp only [awp] at h
      cases hd : noSliceRow τ ops.toList && drawOk ops (preLen ops.toList) with
      | false =>
        simp only [hd] at h
        exact drawR_sound hτ hm h hR fun S' a' w' hS hR' => hn .normal S' a' w' hS hR'
      | true =>
        simp only [hd] at h
        rw [Bool.and_eq_true] at hd
        rcases h with ⟨h⟩ | ⟨h⟩
        case r => exact drawR_sound hτ hm h hR fun S' a' w' hS hR' => hn .normal S' a' w' hS hR'
        exact draw_sound hτ hm hd.2 h hR fun S' a' w' hS hR' => hn .normal S' a' w' hS hR'
  | seq x y ihx ihy =>
    intro S K Q a w h hR hn
    refine wp_seq (ihx S _ _ a w (h _ rfl) hR fun e S' a' w' hK hR' => ?_)
    cases e with
    | normal => exact ihy S' K Q a' w' hK hR' hn
    | exit i => exact hn (.exit i) S' a' w' hK hR'
    | goto l => exact hn (.goto l) S' a' w' hK hR'
    | ret => exact hn .ret S' a' w' hK hR'
  | cond c x y ihx ihy =>
    intro S K Q a w h hR hn
    obtain ⟨ρ, Im, hR0⟩ := hR
    simp only [awp] at h
    split at h
    · rename_i b hb
      have hc := ev_rel hR0 c
      rw [hb] at hc
      exact wp_cond_split (dat_bool hc) (fun e => ihx S K Q a w (h.1 e) ⟨ρ, Im, hR0⟩ hn) (fun e => ihy S K Q a w (h.2 e) ⟨ρ, Im, hR0⟩ hn)
    · exact h.elim
  | block id c ih =>
    intro S K Q a w h hR hn
    refine wp_block (ih S _ _ a w h hR fun e S' a' w' hK hR' => ?_)
    cases e with
    | normal => exact hn .normal S' a' w' hK hR'
    | exit i =>
      simp only [AX.toExit, Exit.inBlock]
      cases hb : Nat.beq i id with
      | true =>
        have := Nat.eq_of_beq_eq_true hb
        simp only [hb] at hK
        rw [if_pos this]; exact hn .normal S' a' w' hK hR'
      | false =>
        have : i ≠ id := fun e => by subst e; simp at hb
        simp only [hb] at hK
        rw [if_neg this]; exact hn (.exit i) S' a' w' hK hR'
    | goto l => exact hn (.goto l) S' a' w' hK hR'
    | ret => exact hn .ret S' a' w' hK hR'
  | loop c ih =>
    intro S K Q a w h hR hn
    obtain ⟨α, St, μ, x, hsub, hround⟩ := h
    intro b kk cs
    have key : ∀ k x a w, μ x = k → RelE w0 G Im0 (St x) a w →
        ∃ e a' w', Q e a' w' ∧ Arrives P (lone (b.at a (.code c :: .inLoop c :: kk)) cs w) b kk cs e a' w' := by
      intro k
      induction k using Nat.strongRecOn with
      | _ k ihk =>
        intro x a w hk hR
        have h1 := ih (St x) _ (Exit.then (fun a' w' => ∃ y, μ y < k ∧ RelE w0 G Im0 (St y) a' w') Q) a w (hround x) hR (fun e S' a' w' hK hR' => by
          cases e with
          | normal =>
            obtain ⟨y, hy, hs⟩ := hK
            exact ⟨y, by omega, hs _ _ _ _ _ hR'⟩
          | exit i => exact hn (.exit i) S' a' w' hK hR'
          | goto l => exact hn (.goto l) S' a' w' hK hR'
          | ret => exact hn .ret S' a' w' hK hR')
        obtain ⟨e, a₁, w₁, hq, harr⟩ := h1 b (.inLoop c :: kk) cs
        cases e with
        | normal =>
          obtain ⟨y, hy, hRy⟩ := hq
          obtain ⟨e₂, a₂, w₂, hq₂, harr₂⟩ := ihk (μ y) hy y a₁ w₁ rfl hRy
          exact ⟨e₂, a₂, w₂, hq₂, .of_steps (Steps.trans harr (.one step_inLoop)) harr₂⟩
        | exit id => exact ⟨_, a₁, w₁, hq, .pass (x := .inLoop c) rfl (fun _ _ => .inl (by simp)) harr⟩
        | goto l => exact ⟨_, a₁, w₁, hq, .pass (x := .inLoop c) rfl (fun _ _ => .inl (by simp)) harr⟩
        | ret => exact ⟨_, a₁, w₁, hq, .pass (x := .inLoop c) rfl (fun _ _ => .inl (by simp)) harr⟩
        | panic ch => exact ⟨_, a₁, w₁, hq, .pass (x := .inLoop c) rfl (fun _ _ => .inl (by simp)) harr⟩
        | outgrown => exact ⟨_, a₁, w₁, hq, .pass (x := .inLoop c) rfl (fun _ _ => .inl (by simp)) harr⟩
    obtain ⟨e, a', w', hq, harr⟩ := key _ x a w rfl (hsub _ _ _ _ _ hR)
    exact ⟨e, a', w', hq, .of_steps (.one step_loop) harr⟩
  | exit i => intro S K Q a w h hR hn; exact wp_exit (hn (.exit i) S a w h hR)
  | label l => intro S K Q a w h hR hn; exact wp_label (hn .normal S a w h hR)
  | ret => intro S K Q a w h hR hn; exact wp_ret (hn .ret S a w h hR)
  | _ => intro S K Q a w h hR hn; exact h.elim
end
end Vg
