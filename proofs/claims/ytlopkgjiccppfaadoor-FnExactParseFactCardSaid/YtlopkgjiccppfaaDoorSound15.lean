/- One operation, a list of operations, code, a function. -/
import Derived.Test.YtlopkgjiccppfaaDoorSoundG
namespace Vg
open Go

section
variable {P : Program} {τ : Tys} {Im Im' : Nat → Nat → Prop} {ρ ρ' ρ2 : Rho} {h h' : Array Obj} {w w' : World}
variable {w0 : World} {G : GP} {Im0 : Nat → Nat → Prop} {S : AState} {a : Act} {n : Nat} {tm : Nat → AV} {blk : Nat → Option Blk}

theorem run_equal_nil {T E : Nat} (hd : P.underlying T = some (.slice E)) (b : Option Addr) (n c : Nat) : (Op.equal T (.slice b n c) (.slice none 0 0)).run P w = .ok b.isNone w := by
  unfold Op.equal
  obtain ⟨d, hd'⟩ : ∃ d, Op.maxDepth = d + 1 := ⟨9999, rfl⟩
  rw [hd']
  simp only [Op.equalIn, Sem.run_bind, run_und hd, Result.andThen_ok]
  cases b <;> rfl

theorem pval_ok [hT : Nonempty (TabH w0.heap Im0)] (hτ : TysOk P τ) {o : Oper} {K : AState → Prop} (h : pval P τ (ev S) S.blk o.op fun v => force v fun v => S.put o.dst v K) (hR : Rel w0 G Im0 S ρ Im a w)
    {next : Act → World → Prop} {Q : Exit → Act → World → Prop} (hn : ∀ S' a' w', K S' → RelE w0 G Im0 S' a' w' → next a' w') : o.wp P a w next Q := by
  obtain ⟨av, h1, _, h2⟩ := pval_sound hτ hR h
  rw [force_eq] at h1
  obtain ⟨S', hK, hS'⟩ := put_ok (w0 := w0) (G := G) (Im0 := Im0) h1
  exact h2 next Q fun v w' Im' hR' hv => hn S' _ _ hK ⟨_, _, hS' hR' hv⟩

/-- a part of a row that is given up -/
theorem fslice_ok [hT : Nonempty (TabH w0.heap Im0)] (hτ : TysOk P τ) {o : Oper} {T id : Nat} {x : Operand} {lo hi : Option Operand} {K : AState → Prop} (hop : o.op = .slice T x lo hi none) (hx : ev S x = .row id)
    (h : fslice P τ S o.dst T x lo hi id K) (hR : Rel w0 G Im0 S ρ Im a w)
    {next : Act → World → Prop} {Q : Exit → Act → World → Prop} (hn : ∀ S' a' w', K S' → RelE w0 G Im0 S' a' w' → next a' w') : o.wp P a w next Q := by
  unfold fslice at h
  split at h
  · rename_i s
    split at h
    rename_i n tm blk
    split at h
    · rename_i E κ l sh hB
      obtain ⟨Im', hR', hI, hv⟩ := hR.freeze hB
      have ht : tm s = .row id := hx
      rw [← hop] at h
      refine pval_ok hτ (S := ⟨n, updT tm s (.dat (.seq κ l)), updB blk id (some (.row E κ l true))⟩) h ⟨hR'.defers, hR'.size, fun t => ?_, hR'.env, hR'.ext⟩ hn
      show AVR _ _ _ (updT tm s (.dat (.seq κ l)) t) _
      unfold updT
      split
      · rename_i e
        have e' := Nat.eq_of_beq_eq_true e
        subst e'
        have h1 := hR.tm t
        change AVR _ _ _ (tm t) _ at h1
        rw [ht] at h1
        exact .dat _ _ (hv _ h1)
      · exact hR'.tm t
    · exact h.elim
  · exact h.elim

theorem step_sound [hT : Nonempty (TabH w0.heap Im0)] (hτ : TysOk P τ) {o : Oper} {K : AState → Prop} (h : step P τ o S K) (hR : Rel w0 G Im0 S ρ Im a w)
    {next : Act → World → Prop} {Q : Exit → Act → World → Prop} (hn : ∀ S' a' w', K S' → RelE w0 G Im0 S' a' w' → next a' w') : o.wp P a w next Q := by
  unfold step at h
  cases hop : o.op <;> simp only [hop] at h
  case alloc T =>
    cases hd : o.dst with
    | none => simp [hd] at h
    | some t =>
      cases hT : τ T with
      | none => simp [hd, hT] at h
      | some i =>
        simp only [hd, hT, forceL_eq] at h
        cases ha : (i.zero.map constC).all AV.oneC with
        | false => simp only [ha] at h
        | true => simp only [ha] at h; exact alloc_ok hτ hop hd hT h hR hn
  case box T x =>
    cases hd : o.dst with
    | none => simp [hd] at h
    | some t =>
      cases hT : τ T with
      | none => simp [hd, hT] at h
      | some i =>
        cases hc : (ev S x).cells1 with
        | none => simp [hd, hT, hc] at h
        | some vs =>
          simp only [hd, hT, hc, forceL_eq] at h
          cases ha : vs.all AV.oneC with
          | false => simp only [ha] at h
          | true => simp only [ha] at h; exact box_ok hop hd hc h hR hn
  case buildSlice T len parts =>
    cases hd : o.dst with
    | none => simp [hd] at h
    | some t =>
      cases hT : τ T with
      | none => simp [hd, hT] at h
      | some i =>
        simp only [hd, hT] at h
        cases hde : i.desc <;> simp only [hde] at h <;> try exact h.elim
        rename_i E κ
        cases hE : τ E with
        | none => simp [hE] at h
        | some ie =>
          simp only [hE] at h
          cases h1 : Nat.beq ie.size κ.sz with
          | false => simp only [h1] at h
          | true =>
            cases h2 : Nat.beq parts.toList.length len with
            | false => simp only [h1, h2] at h
            | true =>
              cases h3 : Nat.ble (len * ie.size) 16777216 with
              | false => simp only [h1, h2, h3] at h
              | true =>
                simp only [h1, h2, h3] at h
                cases hf : κ.flat with
                | true => simp only [hf] at h; exact buildSlice_ok hτ hop hd hT hde hE (Nat.eq_of_beq_eq_true h1) (Nat.eq_of_beq_eq_true h2) (Nat.le_of_ble_eq_true h3) h hR hn
                | false =>
                  simp only [hf] at h
                  rcases h with ⟨h⟩ | ⟨h⟩
                  · exact buildSlice_ok hτ hop hd hT hde hE (Nat.eq_of_beq_eq_true h1) (Nat.eq_of_beq_eq_true h2) (Nat.le_of_ble_eq_true h3) h hR hn
                  · exact buildSliceT_ok hτ hop hd hT hde hE (Nat.eq_of_beq_eq_true h1) (Nat.eq_of_beq_eq_true h2) (Nat.le_of_ble_eq_true h3) h hR hn
  case makeSlice T l c =>
    cases hd : o.dst with
    | none => simp [hd] at h
    | some t =>
      cases hT : τ T with
      | none => simp [hd, hT] at h
      | some i =>
        simp only [hd, hT] at h
        cases hde : i.desc <;> simp only [hde] at h <;> try exact h.elim
        rename_i E κ
        cases hE : τ E with
        | none => simp [hE] at h
        | some ie =>
          simp only [hE] at h
          cases h1 : Nat.beq ie.size κ.sz with
          | false => simp only [h1] at h
          | true =>
            cases h2 : κ.dec ie.zeroD with
            | none => simp only [h1, h2] at h
            | some z =>
              simp only [h1, h2] at h
              split at h
              · rename_i l' m' e1 e2
                obtain ⟨hb, h⟩ := h
                cases hf : κ.flat with
                | true =>
                  simp only [hf] at h
                  exact makeSlice_ok hτ hop hd hT hde hE (Nat.eq_of_beq_eq_true h1) h2 e1 e2 hb h hR hn
                | false =>
                  simp only [hf] at h
                  rcases h with ⟨h⟩ | ⟨h⟩
                  · exact makeSlice_ok hτ hop hd hT hde hE (Nat.eq_of_beq_eq_true h1) h2 e1 e2 hb h hR hn
                  · cases hz : (ie.zero.all Value.hollow && ie.zeroD.all Dat.hollow) with
                    | false => simp only [hz] at h
                    | true => simp only [hz] at h; exact makeSliceT_ok hτ hop hd hT hde hE (Nat.eq_of_beq_eq_true h1) h2 e1 e2 hb hz h hR hn
              · exact h.elim
  case slice T x lo hi mx =>
    cases mx with
    | some m => simp only at h; rw [← hop] at h; exact pval_ok hτ h hR hn
    | none =>
      simp only at h
      split at h
      · rename_i id e
        rcases h with ⟨h⟩ | ⟨h⟩
        · exact rslice_ok hτ hop e h hR hn
        · exact fslice_ok hτ hop e h hR hn
      · rw [← hop] at h; exact pval_ok hτ h hR hn
  case store T pa x => exact astore_ok hτ hop h hR hn
  case binOp op T x y U =>
    split at h
    · rename_i κ l ex ey
      cases hT : τ T with
      | none => simp [hT] at h
      | some i =>
        simp only [hT] at h
        obtain ⟨d, hdd, _, hdesc⟩ := (hτ T i hT).und
        cases hde : i.desc <;> simp only [hde] at h hdesc <;> try exact h.elim
        subst hdesc
        have hx := ev_rel hR x
        have hy := ev_rel hR y
        rw [ex] at hx
        rw [ey] at hy
        have hyv := nils_val hy
        obtain ⟨ad, cap, hxv, _, hrest⟩ := (dat_seq hx).seq_view
        have hlen : ad.isNone = true → l.length = 0 := fun e => by
          cases ad with
          | none =>
            by_cases h0 : l.length = 0
            · exact h0
            · obtain ⟨_, _, _, e', _⟩ := hrest h0; cases e'
          | some _ => simp at e
        unfold anil at h
        split at h
        · obtain ⟨S', hK, hS'⟩ := put_ok (w0 := w0) (G := G) (Im0 := Im0) (h ad.isNone hlen)
          have : (execOp a.eval o).run P w = .ok (.value (.bool ad.isNone)) w := by
            simp [execOp, hop, hxv, hyv, eqGuard, binOp, run_equal_nil hdd]
          unfold Oper.wp
          rw [this]
          exact hn S' _ _ hK ⟨_, _, hS' hR (mk_bool _ _)⟩
        · obtain ⟨S', hK, hS'⟩ := put_ok (w0 := w0) (G := G) (Im0 := Im0) (h (!ad.isNone) (fun e => hlen (by simpa using e)))
          have : (execOp a.eval o).run P w = .ok (.value (.bool !ad.isNone)) w := by
            simp [execOp, hop, hxv, hyv, eqGuard, binOp, run_equal_nil hdd]
          unfold Oper.wp
          rw [this]
          exact hn S' _ _ hK ⟨_, _, hS' hR (mk_bool _ _)⟩
        · exact h.elim
    · rw [← hop] at h; exact pval_ok hτ h hR hn
  case call c =>
    obtain ⟨callee, args, ts⟩ := c
    cases callee with
    | value f =>
      simp only at h
      split at h
      · rename_i g e
        rcases h with h | h
        · obtain ⟨av, h1, _, h2⟩ := pcall_sound hR hop e h
          rw [force_eq] at h1
          obtain ⟨S', hK, hS'⟩ := put_ok (w0 := w0) (G := G) (Im0 := Im0) h1
          exact h2 next Q fun v w' Im' hR' hv => hn S' _ _ hK ⟨_, _, hS' hR' hv⟩
        · rcases h with h | h
          · exact fcall_sound hR hop e h hn
          · exact gcall_sound hR hop e h hn
      · exact h.elim
    | invoke r m =>
      have h' : pval P τ (ev S) S.blk (.call { callee := .invoke r m, args := args, argTypes := ts }) fun v => force v fun v => S.put o.dst v K := h
      rw [← hop] at h'; exact pval_ok hτ h' hR hn
    | builtin b =>
      by_cases hb : b = .append
      · subst hb
        simp only at h
        split at h
        · rename_i x y T T' e1 e2
          cases hTT : Nat.beq T T' with
          | false => simp [hTT] at h
          | true =>
            simp only [hTT] at h
            have hT : T = T' := Nat.eq_of_beq_eq_true hTT
            subst hT
            have e1' : args = #[x, y] := by cases args; simpa using e1
            have e2' : ts = #[T, T] := by cases ts; simpa using e2
            subst e1' e2'
            split at h
            · rename_i id2 e
              split at h
              · exact aappendT_ok hτ hop e h hR hn
              · exact aappend_ok hτ hop (by rw [e]; exact h) hR hn
            · exact aappend_ok hτ hop h hR hn
        · exact h.elim
      · have h' : pval P τ (ev S) S.blk (.call { callee := .builtin b, args := args, argTypes := ts }) fun v => force v fun v => S.put o.dst v K := by
          cases b <;> first | exact h | exact absurd rfl hb
        rw [← hop] at h'; exact pval_ok hτ h' hR hn
  all_goals (rw [← hop] at h; exact pval_ok hτ h hR hn)

/-! ### a list of operations -/
theorem setT_ok {t : Nat} {b : Bool} {c : Bool} (hR : Rel w0 G Im0 S ρ Im a w) (ht : S.tm t = .dat (.bool c)) (hc : c = b) : Rel w0 G Im0 (S.setT t (.dat (.bool b))) ρ Im a w := by
  obtain ⟨n, tm, blk⟩ := S
  refine ⟨hR.defers, hR.size, fun s => ?_, hR.env, hR.ext⟩
  simp only [AState.setT]
  by_cases e : s = t
  · subst e; rw [updT_same]
    have := hR.tm s
    rw [ht, hc] at this
    exact this
  · rw [updT_ne _ e]; exact hR.tm s

theorem wanted_of {ops : Array Oper} {o : Oper} {g t : Nat} {want c : Bool} (hg : o.guard = some (g, want)) (ht : (ops[g]?).bind (·.dst) = some t) (hR : Rel w0 G Im0 S ρ Im a w) (hs : S.tm t = .dat (.bool c)) :
    Region.wanted o (yielded ops a.tmps) = (c == want) := by
  have h1 := hR.tm t
  rw [hs] at h1
  have h2 := dat_bool h1
  have h3 : yielded ops a.tmps g = some c := by
    unfold yielded
    rw [ht]
    simp only [Array.getD_eq_getD_getElem?] at h2
    cases h4 : a.tmps[t]? with
    | none => simp [h4, undef] at h2
    | some v => simp [h4] at h2; subst h2; simp [h4]
  unfold Region.wanted
  rw [hg]
  simp only [h3]
  cases c <;> cases want <;> rfl

theorem undR : AVR ρ w.heap Im (.tup []) undef := .tup [] #[] (fun _ => undef) rfl (by simp) (by simp)
theorem wanted_und {ops : Array Oper} {o : Oper} {g t : Nat} {want : Bool} (hg : o.guard = some (g, want)) (ht : (ops[g]?).bind (·.dst) = some t) (hR : Rel w0 G Im0 S ρ Im a w) (hs : S.tm t = .tup []) :
    Region.wanted o (yielded ops a.tmps) = false := by
  have h1 := hR.tm t
  rw [hs] at h1
  have h3 : yielded ops a.tmps g = none := by
    unfold yielded
    rw [ht]
    simp only [Array.getD_eq_getD_getElem?] at h1
    cases h4 : a.tmps[t]? with
    | none => simp [h4]
    | some v =>
      simp only [h4, Option.getD_some] at h1
      cases h1
      simp [h4]
  unfold Region.wanted
  rw [hg]
  simp only [h3]
  cases want <;> rfl

theorem awpOps_step [hT : Nonempty (TabH w0.heap Im0)] (hτ : TysOk P τ) {ops : Array Oper} {Q : Exit → Act → World → Prop} {o : Oper} {rest : List Oper} {K : AState → Prop} {K' : Act → World → Prop} (h : awpOps P τ ops (o :: rest) S K)
    (hR : Rel w0 G Im0 S ρ Im a w) (hn : ∀ S' a' w', awpOps P τ ops rest S' K → RelE w0 G Im0 S' a' w' → K' a' w') :
    if Region.wanted o (yielded ops a.tmps) then o.wp P a w K' Q else K' (a.put o.dst undef) w := by
  simp only [awpOps] at h
  cases hg : o.guard with
  | none =>
    simp only [hg] at h
    have hw : Region.wanted o (yielded ops a.tmps) = true := by simp [Region.wanted, hg]
    rw [if_pos hw]
    exact step_sound hτ h hR hn
  | some gw =>
    obtain ⟨g, want⟩ := gw
    simp only [hg] at h
    cases ht : (ops[g]?).bind (·.dst) with
    | none => simp [ht] at h
    | some t =>
      simp only [ht] at h
      split at h
      · rename_i c hc
        have hw := wanted_of hg ht hR hc
        have run : ∀ b, c = b → step P τ o (S.setT t (.dat (.bool b))) (fun S => awpOps P τ ops rest S K) → o.wp P a w K' Q := fun b hb hs =>
          step_sound hτ hs (setT_ok hR hc hb) hn
        have skip : ∀ b, c = b → (S.setT t (.dat (.bool b))).put o.dst (.tup []) (fun S => awpOps P τ ops rest S K) → K' (a.put o.dst undef) w := fun b hb hs => by
          obtain ⟨S', hS, hS'⟩ := put_ok (w0 := w0) (G := G) (Im0 := Im0) hs
          exact hn S' _ _ hS ⟨_, _, hS' (setT_ok hR hc hb) undR⟩
        rw [hw]
        cases want with
        | true => cases c with
          | true => rw [if_pos (by decide)]; exact run true rfl (h.1 rfl)
          | false => rw [if_neg (by decide)]; exact skip false rfl (h.2 rfl)
        | false => cases c with
          | true => rw [if_neg (by decide)]; exact skip true rfl (h.2 rfl)
          | false => rw [if_pos (by decide)]; exact run false rfl (h.1 rfl)
      · rename_i hc
        have hw := wanted_und hg ht hR hc
        rw [hw, if_neg (by decide)]
        obtain ⟨S', hS, hS'⟩ := put_ok (w0 := w0) (G := G) (Im0 := Im0) h
        exact hn S' _ _ hS ⟨_, _, hS' hR undR⟩
      · exact h.elim

theorem awpOps_sound [hT : Nonempty (TabH w0.heap Im0)] (hτ : TysOk P τ) {ops : Array Oper} {Q : Exit → Act → World → Prop} : ∀ (l : List Oper) (S : AState) (K : AState → Prop) (a : Act) (w : World), awpOps P τ ops l S K → RelE w0 G Im0 S a w →
    (∀ S' a' w', K S' → RelE w0 G Im0 S' a' w' → Q .normal a' w') → wpList P ops Q l a w
  | [], S, K, a, w, h, hR, hn => hn S a w h hR
  | o :: rest, S, K, a, w, h, ⟨ρ, Im, hR⟩, hn => by
    have ih := fun S a w h hR => awpOps_sound hτ (ops := ops) (Q := Q) rest S K a w h hR hn
    exact wpList_step fun K' hK' => awpOps_step hτ h hR fun S' a' w' hS hR' => hK' _ _ (ih S' a' w' hS hR')

end
end Vg
