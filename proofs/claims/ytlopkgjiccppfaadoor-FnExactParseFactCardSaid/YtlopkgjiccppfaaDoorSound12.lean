/- Appends. -/
import Derived.Test.YtlopkgjiccppfaaDoorSound11
namespace Vg
open Go

section
variable {P : Program} {τ : Tys} {Im Im' : Nat → Nat → Prop} {ρ ρ' : Rho} {h h' : Array Obj} {w w' : World}
variable {w0 : World} {G : GP} {Im0 : Nat → Nat → Prop} {S : AState} {a : Act} {n : Nat} {tm : Nat → AV} {blk : Nat → Option Blk}

/-- a block that nobody owns now is written; cells of it may be given up -/
theorem Rel.mem {b0 : Nat} (hR : Rel w0 G Im0 ⟨n, tm, blk⟩ ρ Im a w) (hlt : b0 < w.heap.size) (hown : G b0 ∨ w0.heap.size ≤ b0) (hfree : ∀ j s x, blk j ≠ none → ρ j = some s → s.has x → x ≠ b0)
    (hk : ∀ k, k ≠ b0 → w'.heap[k]? = w.heap[k]?) (hIm : ∀ o, Im b0 o → hcell w'.heap b0 o = hcell w.heap b0 o) (hg : w.heap.size ≤ w'.heap.size) (ho : w'.os = w.os) (htp : w'.tape = w.tape) (hout : w'.output = w.output)
    (hI : ∀ b o, Im b o → Im' b o) (hI' : ∀ b o, Im' b o → Im b o ∨ b = b0) : Rel w0 G Im0 ⟨n, tm, blk⟩ ρ Im' a w' := by
  have hc : ∀ b o, Im b o → hcell w'.heap b o = hcell w.heap b o := fun b o h1 => by
    by_cases e : b = b0
    · subst e; exact hIm o h1
    · exact hcell_of_block (hk b e) o
  refine ⟨hR.defers, hR.size, fun t => (hR.tm t).mono hc hI, ⟨fun i b hB => ?_, hR.env.inj, hR.env.fpNe, fun i s x hi hs hx => Nat.lt_of_lt_of_le (hR.env.fpLt i s x hi hs hx) hg, fun i s x o hi hs hx h1 => ?_, fun b o h1 => ?_, fun i b s o hB hs => ?_⟩,
    ⟨hR.ext.own, fun b o h1 => hI b o (hR.ext.im0 b o h1), fun b o h1 => ?_, fun b o h1 => ?_, fun c hc' hG => ?_, Nat.le_trans hR.ext.grow hg, ho.trans hR.ext.os, htp.trans hR.ext.tape, hout.trans hR.ext.output, hR.ext.pin⟩⟩
  · exact (hR.env.bl i b hB).mono (fun s x hs hx => hk _ (hfree i s x (by change blk i = some b at hB; simp [hB]) hs hx)) hc hI
  · rcases hI' x o h1 with h2 | h2
    · exact hR.env.fpIm i s x o hi hs hx h2
    · exact hfree i s x hi hs (.inr hx) h2
  · rcases hI' b o h1 with h2 | h2
    · exact Nat.lt_of_lt_of_le (hR.env.imlt b o h2) hg
    · subst h2; omega
  · have hne := hfree i s s.b (by change blk i = some b at hB; simp [hB]) hs (.inl rfl)
    rw [← hR.env.imOwn i b s o hB hs]
    exact ⟨fun h1 => (hI' _ _ h1).resolve_right hne, fun h1 => hI _ _ h1⟩
  · rcases hI' b o h1 with h2 | h2
    · exact hR.ext.imNew b o h2
    · subst h2; exact .inr hown
  · rw [hc b o (hR.ext.im0 b o h1)]; exact hR.ext.keep b o h1
  · have hne : c ≠ b0 := fun e => by
      subst e
      rcases hown with h2 | h2
      · exact hG h2
      · omega
    rw [hk c hne]; exact hR.ext.frame c hc' hG

/-- what stands behind an append's second argument -/
theorem listOf_ok {κ : K} {v : AV} {u : Value} {m : List κ.T} (hl : listOf S.blk κ v = some m) (hR : Rel w0 G Im0 S ρ Im a w) (hv : AVR ρ w.heap Im v u) :
    ∃ ad c, u = .slice ad m.length c ∧ (m.length ≠ 0 → ∃ (b o : Nat) (news : List Value), ad = some ⟨b, o, none⟩ ∧ news.length = m.length * κ.sz ∧
      (∀ j x, news[j]? = some x → w.cell? ((⟨b, o, none⟩ : Addr).add j) = some x) ∧ (∀ x ∈ news, x.oneCell' = true) ∧
      ∀ k j, k < m.length → j < κ.sz → ∃ c, news[k * κ.sz + j]? = some c ∧ RepD w.heap Im (cellOf κ m k j) c) := by
  have mk : ∀ (b o : Nat) (cf : Nat → Nat → Value), (∀ k j, k < m.length → j < κ.sz → hcell w.heap b (o + k * κ.sz + j) = some (cf k j)) →
      (∀ k j, k < m.length → j < κ.sz → RepD w.heap Im (cellOf κ m k j) (cf k j)) → ∃ news : List Value, news.length = m.length * κ.sz ∧
      (∀ j x, news[j]? = some x → w.cell? ((⟨b, o, none⟩ : Addr).add j) = some x) ∧ (∀ x ∈ news, x.oneCell' = true) ∧
      ∀ k j, k < m.length → j < κ.sz → ∃ c, news[k * κ.sz + j]? = some c ∧ RepD w.heap Im (cellOf κ m k j) c := by
    intro b o cf hc hr
    have hpos := κ.sz_pos
    have hdm : ∀ x, x < m.length * κ.sz → x / κ.sz < m.length ∧ x % κ.sz < κ.sz ∧ x / κ.sz * κ.sz + x % κ.sz = x := fun x hx =>
      ⟨(Nat.div_lt_iff_lt_mul hpos).2 hx, Nat.mod_lt _ hpos, by rw [Nat.mul_comm]; exact Nat.div_add_mod x κ.sz⟩
    refine ⟨(List.range (m.length * κ.sz)).map fun x => cf (x / κ.sz) (x % κ.sz), by simp, fun j x hx => ?_, fun x hx => ?_, fun k j hk hj => ?_⟩
    · rw [List.getElem?_map] at hx
      by_cases hj : j < m.length * κ.sz
      · rw [List.getElem?_range hj] at hx
        simp at hx
        obtain ⟨h1, h2, h3⟩ := hdm j hj
        rw [Addr.add_some, cell?_eq, ← hx, ← hc _ _ h1 h2, Nat.add_assoc, h3]
      · rw [List.getElem?_eq_none (by simpa using hj)] at hx; simp at hx
    · obtain ⟨y, hy, rfl⟩ := List.mem_map.1 hx
      obtain ⟨h1, h2, _⟩ := hdm y (List.mem_range.1 hy)
      exact (hr _ _ h1 h2).one
    · have hlt : k * κ.sz + j < m.length * κ.sz := by
        have : (k + 1) * κ.sz ≤ m.length * κ.sz := Nat.mul_le_mul_right _ hk
        rw [Nat.add_mul] at this; omega
      refine ⟨cf k j, ?_, hr k j hk hj⟩
      rw [List.getElem?_map, List.getElem?_range hlt]
      have e1 : (k * κ.sz + j) / κ.sz = k := by
        rw [Nat.mul_comm, Nat.mul_add_div hpos, Nat.div_eq_of_lt hj]; rfl
      have e2 : (k * κ.sz + j) % κ.sz = j := by rw [Nat.mul_comm, Nat.mul_add_mod, Nat.mod_eq_of_lt hj]
      simp [e1, e2]
  cases v with
  | dat d =>
    cases d with
    | seq κ' l =>
      simp only [listOf] at hl
      by_cases e : κ' = κ
      · subst e
        simp at hl
        subst hl
        obtain ⟨ad, c, rfl, _, hrest⟩ := (dat_seq hv).seq_view
        refine ⟨ad, c, rfl, fun h0 => ?_⟩
        obtain ⟨b, o, cf, rfl, _, _, _, hc, hr⟩ := hrest h0
        obtain ⟨news, h1, h2, h3, h4⟩ := mk b o cf hc hr
        exact ⟨b, o, news, rfl, h1, h2, h3, h4⟩
      · simp [e] at hl
    | _ => simp [listOf] at hl
  | nils =>
    simp [listOf] at hl
    subst hl
    obtain rfl := nils_val hv
    exact ⟨none, 0, rfl, fun h0 => absurd rfl h0⟩
  | row i =>
    simp only [listOf] at hl
    cases hB : S.blk i with
    | none => simp [hB] at hl
    | some bb =>
      cases bb with
      | box => simp [hB] at hl
      | tree => simp [hB] at hl
      | row T κ' l sh =>
        simp only [hB] at hl
        by_cases e : κ' = κ
        · subst e
          simp at hl
          subst hl
          have hb := hR.env.bl i _ hB
          cases hv with
          | row _ r hi =>
            simp only [BlkR, hi] at hb
            obtain ⟨h1, h2, h3, cs, T0, hh, hsz, hcs⟩ := hb
            refine ⟨_, _, by rw [h1], fun h0 => ?_⟩
            obtain ⟨news, h5, h6, h7, h8⟩ := mk r.b 0 (fun k j => cs.getD (k * κ'.sz + j) undef) (fun k j hk hj => by
                obtain ⟨c, hc1, _⟩ := hcs k j hk hj
                simp [hcell, hh, hc1]) (fun k j hk hj => by
                obtain ⟨c, hc1, hc2⟩ := hcs k j hk hj
                simpa [hc1] using hc2)
            exact ⟨r.b, 0, news, rfl, h5, h6, h7, h8⟩
          | rowN _ hi =>
            simp only [BlkR, hi] at hb
            exact ⟨none, 0, by rw [hb], fun h0 => absurd hb h0⟩
        · simp [e] at hl
  | _ => simp [listOf] at hl

/-- append of nothing -/
theorem run_append_room' (w : World) (t ty e T0 : TypeId) (i : TypeInfo) (ht : P.underlying t = some (.slice e)) (hi : P.info? e = some i)
    (g sLen sCap : Nat) (cur : Array Value) (hg : w.heap[g]? = some (.cells cur T0 (0, 0)))
    (a : Addr) (m c : Nat) (news : List Value) (hl : news.length = m * i.size) (hnews : ∀ j u, news[j]? = some u → w.cell? (a.add j) = some u) (h1 : ∀ u ∈ news, u.oneCell' = true)
    (hroom : sLen + m ≤ sCap) (hfit : sLen * i.size + news.length ≤ cur.size) :
    (Builtin.append_ #[t, t] ty #[.slice (some ⟨g, 0, none⟩) sLen sCap, .slice (some a) m c]).run P w =
      .ok (.slice (some ⟨g, 0, none⟩) (sLen + m) sCap) (w.setRow g (cur.toList.take (sLen * i.size) ++ news ++ cur.toList.drop (sLen * i.size + news.length)).toArray) := by
  have hf := run_firstCells_some (P := P) w i.size m a m c news hl hnews
  have hst := run_storeCells_at P g (sLen * i.size) T0 news 0 cur w hg (by simpa using hfit) h1
  simp only [Nat.add_zero] at hst
  simp [Builtin.append_, run_underlying ht, Go.sizeOf, Go.typeInfo, hi, Builtin.lenOf, hroom, hf, Addr.add_lit, hst]

theorem run_append_none {T E : Nat} {i : TyI} (hT : P.underlying T = some (.slice E)) (hE : TyOk P E i) (ty : Nat) (base : Option Addr) (hbase : ∀ x, base = some x → x.spot = none) (len cap : Nat) (hlc : len ≤ cap) (ad : Option Addr) (c : Nat) :
    (Builtin.append_ #[T, T] ty #[.slice base len cap, .slice ad 0 c]).run P w = .ok (.slice base len cap) w := by
  have hf : (Builtin.firstCells i.size 0 (.slice ad 0 c)).run P w = .ok #[] w := by
    cases ad <;> simp [Builtin.firstCells, loadCells, loadCellsFrom]
  cases base with
  | none => simp [Builtin.append_, run_und hT, run_sizeOf hE, Builtin.lenOf, hlc, hf]
  | some x => simp [Builtin.append_, run_und hT, run_sizeOf hE, Builtin.lenOf, hlc, hf, storeCells]
end
end Vg
