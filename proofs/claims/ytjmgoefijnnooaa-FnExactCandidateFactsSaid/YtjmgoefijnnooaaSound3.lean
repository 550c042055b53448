/- Arithmetic, comparisons, conversions, lengths. -/
import Derived.Test.YtjmgoefijnnooaaSound2
namespace Vg
open Go

section
variable {P : Program} {τ : Tys} {Im : Nat → Nat → Prop} {B : Nat → Option Blk} {ρ : Rho} {w : World}

theorem dat_int {h : Array Obj} {k : IntKind} {n : Int} {v : Value} (hr : AVR ρ h Im (.dat (.int k n)) v) : v = .int k n := by
  cases hr with | dat _ _ hd => cases hd; rfl
theorem dat_bool {h : Array Obj} {b : Bool} {v : Value} (hr : AVR ρ h Im (.dat (.bool b)) v) : v = .bool b := by
  cases hr with | dat _ _ hd => cases hd; rfl
theorem dat_str {h : Array Obj} {s : ByteArray} {v : Value} (hr : AVR ρ h Im (.dat (.str s)) v) : v = .string s := by
  cases hr with | dat _ _ hd => cases hd; rfl
theorem dat_seq {h : Array Obj} {κ : K} {l : List κ.T} {v : Value} (hr : AVR ρ h Im (.dat (.seq κ l)) v) : RepD h Im (.seq κ l) v := by
  cases hr with | dat _ _ hd => exact hd
theorem nils_val {h : Array Obj} {v : Value} (hr : AVR ρ h Im .nils v) : v = .slice none 0 0 := by cases hr; rfl
theorem mk_int (h : Array Obj) (k : IntKind) (n : Int) : AVR ρ h Im (.dat (.int k n)) (.int k n) := .dat _ _ (.int k n)
theorem mk_bool (h : Array Obj) (b : Bool) : AVR ρ h Im (.dat (.bool b)) (.bool b) := .dat _ _ (.bool b)
theorem mk_str (h : Array Obj) (s : ByteArray) : AVR ρ h Im (.dat (.str s)) (.string s) := .dat _ _ (.str s)

theorem run_equal_bool {T : Nat} (hd : P.underlying T = some .bool) (a b : Bool) : (Op.equal T (.bool a) (.bool b)).run P w = .ok (a == b) w := by
  unfold Op.equal
  obtain ⟨d, hd'⟩ : ∃ d, Op.maxDepth = d + 1 := ⟨9999, rfl⟩
  rw [hd']
  simp only [Op.equalIn, Sem.run_bind, run_und hd, Result.andThen_ok]
  rfl

theorem abin_sound (hτ : TysOk P τ) {op : BinOp} {T : Nat} {x y : Operand} {p q : AV} {v u : Value} {K : AV → Prop}
    (hp : AVR ρ w.heap Im p v) (hq : AVR ρ w.heap Im q u) (h : abin (τ T) op p q K) :
    ∃ av, K av ∧ abin (τ T) op p q (· = av) ∧ ∃ r, (do eqGuard op T x y v u; binOp op T v u : Sem Value).run P w = .ok r w ∧ AVR ρ w.heap Im av r := by
  unfold abin at h ⊢
  split at h
  · rename_i k a k' b
    obtain rfl := dat_int hp
    obtain rfl := dat_int hq
    split at h
    · exact ⟨_, h.2, ⟨h.1, rfl⟩, _, by simp [eqGuard, binOp, Op.shift, show ¬ b < 0 by have := h.1; omega], mk_int _ _ _⟩
    · exact ⟨_, h.2, ⟨h.1, rfl⟩, _, by simp [eqGuard, binOp, Op.shift, show ¬ b < 0 by have := h.1; omega], mk_int _ _ _⟩
    · rename_i hn1 hn2
      cases hd : decide (k = k') with
      | false => simp [hd] at h
      | true =>
        have hk : k = k' := of_decide_eq_true hd
        simp only [hd] at h ⊢
        clear hd
        subst hk
        split at h
        · exact ⟨_, h, rfl, _, by simp [eqGuard, binOp, Op.intArith], mk_int _ _ _⟩
        · exact ⟨_, h, rfl, _, by simp [eqGuard, binOp, Op.intArith], mk_int _ _ _⟩
        · exact ⟨_, h, rfl, _, by simp [eqGuard, binOp, Op.intArith], mk_int _ _ _⟩
        · exact ⟨_, h.2, ⟨h.1, rfl⟩, _, by simp [eqGuard, binOp, Op.intDiv, h.1], mk_int _ _ _⟩
        · exact ⟨_, h.2, ⟨h.1, rfl⟩, _, by simp [eqGuard, binOp, Op.intDiv, h.1], mk_int _ _ _⟩
        · exact ⟨_, h, rfl, _, by simp [eqGuard, binOp, Op.intBits], mk_int _ _ _⟩
        · exact ⟨_, h, rfl, _, by simp [eqGuard, binOp, Op.intBits], mk_int _ _ _⟩
        · exact ⟨_, h, rfl, _, by simp [eqGuard, binOp, Op.intBits], mk_int _ _ _⟩
        · exact ⟨_, h, rfl, _, by simp [eqGuard, binOp, Op.intCmp], mk_bool _ _⟩
        · exact ⟨_, h, rfl, _, by simp [eqGuard, binOp, Op.intCmp], mk_bool _ _⟩
        · exact ⟨_, h, rfl, _, by simp [eqGuard, binOp, Op.intCmp], mk_bool _ _⟩
        · exact ⟨_, h, rfl, _, by simp [eqGuard, binOp, Op.intCmp], mk_bool _ _⟩
        · exact ⟨_, h, rfl, _, by simp [eqGuard, binOp, Op.intCmp], mk_bool _ _⟩
        · exact ⟨_, h, rfl, _, by simp [eqGuard, binOp, Op.intCmp], mk_bool _ _⟩
        · exact h.elim
  · rename_i a b
    obtain rfl := dat_str hp
    obtain rfl := dat_str hq
    split at h
    · have hm : (a.size : Int) + b.size ≤ 9223372036854775807 := by
        have := h.1; unfold maxLen at this; omega
      have e : IntKind.i64.max = 9223372036854775807 := by decide
      exact ⟨_, h.2, ⟨h.1, rfl⟩, _, by simp [eqGuard, binOp, Op.stringOp, e, show ¬ (9223372036854775807 : Int) < (a.size : Int) + b.size by omega], mk_str _ _⟩
    · exact ⟨_, h, rfl, _, by simp [eqGuard, binOp, Op.stringOp], mk_bool _ _⟩
    · exact ⟨_, h, rfl, _, by simp [eqGuard, binOp, Op.stringOp], mk_bool _ _⟩
    · exact ⟨_, h, rfl, _, by simp [eqGuard, binOp, Op.stringOp], mk_bool _ _⟩
    · exact h.elim
  · rename_i a b
    obtain rfl := dat_bool hp
    obtain rfl := dat_bool hq
    cases ht : τ T with
    | none => simp [ht] at h
    | some i =>
      simp only [ht] at h ⊢
      obtain ⟨d, hd, _, hdesc⟩ := (hτ T i ht).und
      cases hdd : i.desc <;> simp only [hdd] at h hdesc ⊢ <;> first | exact h.elim | skip
      subst hdesc
      split at h
      · exact ⟨_, h, rfl, _, by simp [eqGuard, binOp, run_equal_bool hd], mk_bool _ _⟩
      · exact ⟨_, h, rfl, _, by simp [eqGuard, binOp, run_equal_bool hd], mk_bool _ _⟩
      · exact h.elim
  · exact h.elim

theorem aun_sound {op : UnOp} {p : AV} {v : Value} {K : AV → Prop} (hp : AVR ρ w.heap Im p v) (h : aun op p K) :
    ∃ av, K av ∧ aun op p (· = av) ∧ ∃ r, (Op.unary op v).run P w = .ok r w ∧ AVR ρ w.heap Im av r := by
  unfold aun at h ⊢
  split at h
  · obtain rfl := dat_bool hp
    split at h
    · exact ⟨_, h, rfl, _, by simp [Op.unary], mk_bool _ _⟩
    · exact h.elim
  · obtain rfl := dat_int hp
    split at h
    · exact ⟨_, h, rfl, _, by simp [Op.unary, Op.intArith], mk_int _ _ _⟩
    · exact h.elim
  · exact h.elim

theorem run_convert_int (P : Program) (s d : Nat) (k k' : IntKind) (n : Int) (w : World) (ds : TypeDesc) (h1 : P.underlying s = some ds) (h2 : P.underlying d = some (.int k)) :
    (convert s d (.int k' n)).run P w = .ok (.int k (k.wrap n)) w := by
  simp only [convert, Sem.run_bind, run_und h1, run_und h2, Result.andThen_ok]
  cases ds <;> rfl

theorem aconv_sound {s d : Nat} {p : AV} {v : Value} {K : AV → Prop} (hτ : TysOk P τ) (hp : AVR ρ w.heap Im p v) (h : aconv (τ s) (τ d) p K) :
    ∃ av, K av ∧ aconv (τ s) (τ d) p (· = av) ∧ ∃ r, (convert s d v).run P w = .ok r w ∧ AVR ρ w.heap Im av r := by
  cases hs : τ s with
  | none => simp [hs, aconv] at h
  | some is =>
    cases hd : τ d with
    | none => simp [hs, hd, aconv] at h
    | some id =>
      simp only [hs, hd, aconv] at h ⊢
      obtain ⟨ds, h1, _⟩ := (hτ s is hs).und
      obtain ⟨dd, h2, _, h3⟩ := (hτ d id hd).und
      split at h
      · rename_i k hk
        simp only [hk] at h3
        subst h3
        split at h
        · obtain rfl := dat_int hp
          exact ⟨_, h, rfl, _, run_convert_int P s d _ _ _ w ds h1 h2, mk_int _ _ _⟩
        · exact h.elim
      · exact h.elim

theorem alen_sound {T : Nat} {p : AV} {v : Value} {K : AV → Prop} (hτ : TysOk P τ) (E : Env B ρ Im w.heap) (hp : AVR ρ w.heap Im p v) (h : alen B (τ T) p K) :
    ∃ av, K av ∧ alen B (τ T) p (· = av) ∧ ∃ r, (Builtin.len_ #[T] 3 #[v]).run P w = .ok r w ∧ AVR ρ w.heap Im av r := by
  unfold alen at h ⊢
  cases ht : τ T with
  | none => simp [ht] at h
  | some i =>
    simp only [ht] at h ⊢
    obtain ⟨d, hd, _, hdesc⟩ := (hτ T i ht).und
    split at h
    · rename_i E' κ hdd
      simp only [hdd] at hdesc ⊢
      subst hdesc
      split at h
      · rename_i κ' l
        obtain ⟨a, cap, rfl, hm, _⟩ := (dat_seq hp).seq_view
        exact ⟨_, h hm, fun _ => rfl, _, by simp [Builtin.len_, run_und hd, goInt], mk_int _ _ _⟩
      · obtain rfl := nils_val hp
        exact ⟨_, h, rfl, _, by simp [Builtin.len_, run_und hd, goInt], mk_int _ _ _⟩
      · rename_i id
        split at h
        · rename_i T' κ' l sh hB
          have hb := E.bl id _ hB
          cases hp with
          | row _ r hi =>
            simp only [BlkR, hi] at hb
            obtain ⟨h1, h2, h3, _⟩ := hb
            have hm : l.length ≤ maxLen := by omega
            refine ⟨_, h hm, ?_, _, by simp [Builtin.len_, run_und hd, goInt, h1], mk_int _ _ _⟩
            exact fun _ => rfl
          | rowN _ hi =>
            simp only [BlkR, hi] at hb
            have hm : l.length ≤ maxLen := by rw [hb]; exact Nat.zero_le _
            refine ⟨_, h hm, fun _ => rfl, .int .i64 0, by simp [Builtin.len_, run_und hd, goInt], ?_⟩
            rw [hb]; exact mk_int _ _ _
        · rename_i T' κ' l hB
          have hb := E.bl id _ hB
          cases hp with
          | row _ r hi =>
            simp only [BlkR, hi] at hb
            obtain ⟨h1, h2, h3, _⟩ := hb
            have hm : l.length ≤ maxLen := by omega
            refine ⟨_, h hm, ?_, _, by simp [Builtin.len_, run_und hd, goInt, h1], mk_int _ _ _⟩
            exact fun _ => rfl
          | rowN _ hi =>
            simp only [BlkR, hi] at hb
            have hm : l.length ≤ maxLen := by rw [hb]; exact Nat.zero_le _
            refine ⟨_, h hm, fun _ => rfl, .int .i64 0, by simp [Builtin.len_, run_und hd, goInt], ?_⟩
            rw [hb]; exact mk_int _ _ _
        · exact h.elim
      · exact h.elim
    · rename_i hdd
      simp only [hdd] at hdesc ⊢
      subst hdesc
      split at h
      · obtain rfl := dat_str hp
        exact ⟨_, h, rfl, _, by simp [Builtin.len_, run_und hd, goInt], mk_int _ _ _⟩
      · exact h.elim
    · exact h.elim
end
end Vg
