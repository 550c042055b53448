/- The library's builder of strings: its check and its String as contracts over a given box (and row). Conditions: what the library's functions do, as premises. -/
import Derived.Test.YtgbjdifegilniaaGreatDoorRet
import Derived.Test.YtgbjdifegilniaaGreatDoorTree
import Derived.Shelf.Strings.Builder1
import Derived.Test.YtgbjdifegilniaaGreatDoorSound
namespace Vg
open Go Go.Proofs
theorem lO {vs : Array Value} {v : Value} (h : vs.size = 1) (e : vs.getD 0 undef = v) : vs = #[v] := by
 apply Array.ext (by simpa using h)
 intro i h1 h2
 have : i = 0 := by simp at h2; omega
 subst this
 simp at e ⊢
 rw [← e]; simp [h]
theorem idx1 {b : Blk} {i : Nat} (hi : (fun j => [b][j]?) i ≠ none) : i = 0 := by
 cases i with
 | zero => rfl
 | succ i => exact absurd rfl hi
theorem upd1 {b b' : Blk} : updB (fun j => [b][j]?) 0 (some b') = fun j => [b'][j]? := by
 funext j
 cases j with
 | zero => rfl
 | succ j => rw [p6 _ omG]; rfl
theorem agg2 {cs : Array Value} {x y : Value} (h : cs.size = 2) (h0 : cs[0]? = some x) (h1 : cs[1]? = some y) : cs = #[x, y] := by
 apply Array.ext (by simpa using h)
 intro i hi hi'
 have : i = 0 ∨ i = 1 := by simp at hi'; omega
 rcases this with rfl | rfl
 · rw [Array.getElem?_eq_getElem hi] at h0; injection h0
 · rw [Array.getElem?_eq_getElem hi] at h1; injection h1
theorem qbw {w : World} {b : Nat} {x y z : Value} {T : Nat} (h : w.heap[b]? = some (.cells #[x, y] T (0, 0))) : (w.setCell ⟨b, 0, none⟩ z).heap[b]? = some (.cells #[z, y] T (0, 0)) := by
 unfold World.setCell
 simp only [Array.getElem?_modify, if_true, h]
 rfl
theorem qfe {P : Program} {f : FuncId} (hf : ∃ fn, P.funcs[f]? = some fn ∧ (fn.name == "runtime.NumGoroutine") = false ∧ fn.body.isNone = false)
 (hc : ∀ (b : Nat) (w : World), w.cell? ⟨b, 0, none⟩ = some (.pointer none) → w.shape? b = some (zJ, 2) → w.frozen? ⟨b, 0, none⟩ = false → Calls P f #[.pointer (some ⟨b, 0, none⟩)] w fun e w' => e = .returned (.tuple #[]) ∧ w' = w.setCell ⟨b, 0, none⟩ (.pointer (some ⟨b, 0, none⟩))) :
 CallsG P f [.ptr 0 0] [.box [.nilp, .nils]] 1 (fun res B => res = .tup [] ∧ B = [.box [.ptr 0 0, .nils]]) := by
 refine ⟨hf, fun w Im ρ vs hs ha E _ => ?_⟩
 have h0 := ha 0 (.ptr 0 0) rfl
 obtain ⟨r, cs, T, hr, hh, hsz, hcs⟩ := E.bl 0 _ rfl
 generalize hv : vs.getD 0 undef = v at h0
 obtain rfl := lO hs hv
 cases h0 with
 | ptr _ _ r' hi =>
  rw [hr] at hi; cases hi
  obtain ⟨c0, e0, a0⟩ := hcs 0 _ rfl
  obtain ⟨c1, e1, a1⟩ := hcs 1 _ rfl
  cases a0
  cases a1
  have hcs2 := agg2 hsz.len e0 e1
  subst hcs2
  obtain rfl : T = zJ := hsz.bld rfl
  have him : ∀ o, ¬ Im r.b o := fun o hI => by
   have := (E.imOwn 0 _ r o rfl hr).1 hI
   simp [Blk.pinned] at this
  refine (hc r.b w (by rw [j9]; simp [hcell, hh]) (by simp [World.shape?, hh]) (by simp [World.frozen?, hh])).mono fun e w' he => ?_
  obtain ⟨rfl, rfl⟩ := he
  have hset := qbw (z := .pointer (some ⟨r.b, 0, none⟩)) hh
  have hk : ∀ k, k ≠ r.b → (w.setCell ⟨r.b, 0, none⟩ (.pointer (some ⟨r.b, 0, none⟩))).heap[k]? = w.heap[k]? := fun k hk => RowKit.Below.heap_setCell w _ _ k hk
  have hsize : (w.setCell ⟨r.b, 0, none⟩ (.pointer (some ⟨r.b, 0, none⟩))).heap.size = w.heap.size := by simp [World.setCell]
  have hE := E.write (h' := (w.setCell ⟨r.b, 0, none⟩ (.pointer (some ⟨r.b, 0, none⟩))).heap) (Im' := Im) (i := 0) (blk' := .box [.ptr 0 0, .nils]) rfl hr hk (fun o hI => absurd hI (him o)) (by rw [hsize]; exact Nat.le_refl _) (fun _ _ x => x) (fun _ _ x => .inl x)
   ⟨r, _, _, hr, hset, ⟨rfl, fun h => by cases h⟩, fun j a hj => by
    match j, hj with
    | 0, hj => cases hj; exact ⟨_, rfl, .ptr 0 0 r hr⟩
    | 1, hj => cases hj; exact ⟨_, rfl, .nils⟩⟩ (fun o => ⟨fun hI => absurd hI (him o), fun h => by simp [Blk.pinned] at h⟩)
  rw [upd1] at hE
  refine ⟨_, .tup [], _, ρ, Im, rfl, ⟨rfl, rfl⟩, .tup [] #[] (fun _ => undef) rfl (by simp) (by simp), hE, fun j hj => ⟨by simpa using hj, rfl⟩, ?_⟩
  refine ⟨fun i s x hi hs hx => ?_, fun _ _ h => h, fun b o h => .inl h, fun b o hI => ?_, fun b hb hG => ?_, by rw [hsize]; exact Nat.le_refl _, rfl, rfl, rfl, fun i p hp => by cases hp⟩
  · obtain rfl := idx1 hi
    exact .inl ⟨0, s, by decide, hs, hx⟩
  · exact iA (hk b fun e => him o (e ▸ hI)) o
  · exact hk b fun e => hG ⟨0, r, by decide, hr, .inl e⟩
theorem same_G {w : World} {Im : Nat → Nat → Prop} {ρ : Rho} {Bg : List Blk} (_ : Env (fun j => Bg[j]?) ρ Im w.heap) : Ext w (.of Bg.length ρ) Im (fun j => Bg[j]?) ρ Im w := by
 refine ⟨fun i r x hi h1 hx => ?_, fun _ _ h => h, fun b o h => .inl h, fun b o hI => rfl, fun b hb hG => rfl, Nat.le_refl _, rfl, rfl, rfl, fun i p hp => by cases hp⟩
 by_cases h : i < Bg.length
 · exact .inl ⟨i, r, h, h1, hx⟩
 · exact absurd (List.getElem?_eq_none omG) hi
theorem qfd {P : Program} {f : FuncId} {b1 : AV} {bs : List Blk} (hf : ∃ fn, P.funcs[f]? = some fn ∧ (fn.name == "runtime.NumGoroutine") = false ∧ fn.body.isNone = false)
 (hc : ∀ (b : Nat) (w : World), w.cell? ⟨b, 0, none⟩ = some (.pointer (some ⟨b, 0, none⟩)) → Calls P f #[.pointer (some ⟨b, 0, none⟩)] w fun e w' => e = .returned (.tuple #[]) ∧ w' = w) :
 CallsG P f [.ptr 0 0] (.box [.ptr 0 0, b1] :: bs) (bs.length + 1) (fun res B => res = .tup [] ∧ B = .box [.ptr 0 0, b1] :: bs) := by
 refine ⟨hf, fun w Im ρ vs hs ha E _ => ?_⟩
 have h0 := ha 0 (.ptr 0 0) rfl
 obtain ⟨r, cs, T, hr, hh, hsz, hcs⟩ := E.bl 0 _ rfl
 generalize hv : vs.getD 0 undef = v at h0
 obtain rfl := lO hs hv
 cases h0 with
 | ptr _ _ r' hi =>
  rw [hr] at hi; cases hi
  obtain ⟨c0, e0, a0⟩ := hcs 0 _ rfl
  cases a0 with
  | ptr _ _ r2 hi2 =>
   rw [hr] at hi2; cases hi2
   refine (hc r.b w (by rw [j9]; simp [hcell, hh, e0])).mono fun e w' he => ?_
   obtain ⟨rfl, rfl⟩ := he
   exact ⟨_, .tup [], _, ρ, Im, rfl, ⟨rfl, rfl⟩, .tup [] #[] (fun _ => undef) rfl (by simp) (by simp), E, fun j hj => ⟨by simpa using hj, rfl⟩, same_G E⟩
theorem bld_str {P : Program} {f : FuncId} {T : Nat} {x : ByteArray} (hx : x.data.toList ≠ []) (hf : ∃ fn, P.funcs[f]? = some fn ∧ (fn.name == "runtime.NumGoroutine") = false ∧ fn.body.isNone = false)
 (hc : ∀ (b g cap : Nat) (p : Value) (cur : Array Value) (Tb : Nat) (w : World), w.heap[b]? = some (.cells #[p, .slice (some ⟨g, 0, none⟩) x.size cap] Tb (0, 0)) → w.heap[g]? = some (.cells cur T (0, 0)) → x.size ≤ cap → cap ≤ maxLen → cap ≤ cur.size →
  (∀ (j : Nat) (c : UInt8), x.data.toList[j]? = some c → cur[j]? = some (Value.int .u8 (c.toNat : Int))) → Calls P f #[.pointer (some ⟨b, 0, none⟩)] w fun e w' => e = .returned (.string x) ∧ w' = w.drew.freeze ⟨g, 0, none⟩ x.size) :
 CallsG P f [.ptr 0 0] [.box [.ptr 0 0, .row 1], .row T .bytes (m4 x) false] 0 (fun res B => res = .dat (.str x) ∧ B = []) := by
 refine ⟨hf, fun w Im ρ vs hs ha E _ => ?_⟩
 have h0 := ha 0 (.ptr 0 0) rfl
 obtain ⟨r, cs, Tb, hr, hh, hsz, hcs⟩ := E.bl 0 _ rfl
 have hB := E.bl 1 _ rfl
 generalize hv : vs.getD 0 undef = v at h0
 obtain rfl := lO hs hv
 have hlx : (m4 x).length = x.size := nM x
 have hx0 : x.size ≠ 0 := fun e => hx (List.eq_nil_of_length_eq_zero e)
 cases h0 with
 | ptr _ _ r' hi =>
  rw [hr] at hi; cases hi
  obtain ⟨c0, e0, _⟩ := hcs 0 _ rfl
  obtain ⟨c1, e1, a1⟩ := hcs 1 _ rfl
  have hcs2 := agg2 hsz.len e0 e1
  subst hcs2
  cases a1 with
  | rowN _ hi1 =>
   simp only [BlkR, hi1] at hB
   exact absurd (hlx.symm.trans hB) hx0
  | row _ r1 hi1 =>
   simp only [BlkR, hi1] at hB
   obtain ⟨q1, q2, q3, cur, T0, hg, hcsz, hcc⟩ := hB
   have hT : tyB .bytes T T0 = T := rfl
   rw [hT] at hg
   have hcsz' : r1.cap ≤ cur.size := by simpa [K.sz] using hcsz
   rw [q1, hlx] at hh
   refine (hc r.b r1.b r1.cap c0 cur Tb w hh hg omG q3 hcsz' (fun j c hj => ?_)).mono fun e w' he => ?_
   · have hj' : j < x.data.toList.length := (List.getElem?_eq_some_iff.1 hj).1
     have hj2 : j < (m4 x).length := by rw [hlx]; exact hj'
     obtain ⟨v, h1, h2⟩ := hcc j 0 hj2 (by decide)
     have e : y4 .bytes (m4 x) j 0 = .int .u8 c.toNat := by
      have e0 : (m4 x).getD j K.bytes.dflt = (c.toNat : Int) := by
       unfold m4
       rw [List.getD_eq_getElem?_getD, List.getElem?_map, hj]; rfl
      unfold y4
      rw [e0]; rfl
     rw [e] at h2
     cases h2
     simpa [K.sz] using h1
   · obtain ⟨rfl, rfl⟩ := he
     have him : ∀ o, ¬ Im r1.b o := fun o hI => by
      have := (E.imOwn 1 _ r1 o rfl hi1).1 hI
      simp [Blk.pinned] at this
     have hfz : w.drew.freeze ⟨r1.b, 0, none⟩ x.size = { w.drew with heap := w.drew.heap.modify r1.b fun
      | .cells c elem (lo, hi) => .cells c elem (if lo == hi then (0, 0 + x.size) else (min lo 0, max hi (0 + x.size)))
      | o => o } := by unfold World.freeze; rw [if_neg hx0]; rfl
     have hk : ∀ k, k ≠ r1.b → (w.drew.freeze ⟨r1.b, 0, none⟩ x.size).heap[k]? = w.heap[k]? := fun k hk => by
      rw [hfz]
      show (w.heap.modify r1.b _)[k]? = _
      rw [Array.getElem?_modify, if_neg (fun e => hk e.symm)]
     have hsize : (w.drew.freeze ⟨r1.b, 0, none⟩ x.size).heap.size = w.heap.size := by rw [hfz]; exact Array.size_modify
     have hos : (w.drew.freeze ⟨r1.b, 0, none⟩ x.size).os = w.os ∧ (w.drew.freeze ⟨r1.b, 0, none⟩ x.size).tape = w.tape ∧ (w.drew.freeze ⟨r1.b, 0, none⟩ x.size).output = w.output := by rw [hfz]; exact ⟨rfl, rfl, rfl⟩
     refine ⟨_, .dat (.str x), [], fun _ => none, Im, rfl, ⟨rfl, rfl⟩, .dat _ _ (.str _), ⟨fun i b hi => (by simp at hi), fun i j r s x hi => absurd rfl hi, fun i r hi => absurd rfl hi, fun i r x hi => absurd rfl hi, fun i r x o hi => absurd rfl hi, fun b o h => ?_, fun i b r o hi => (by simp at hi)⟩,
      fun j hj => absurd hj omG, ⟨fun i r x hi => absurd rfl hi, fun _ _ h => h, fun b o h => .inl h, fun b o hI => ?_, fun b hb hG => ?_, by rw [hsize]; exact Nat.le_refl _, hos.1, hos.2.1, hos.2.2, fun i p hp => by cases hp⟩⟩
     · rw [hsize]; exact E.imlt b o h
     · exact iA (hk b fun e => him o (e ▸ hI)) o
     · exact hk b fun e => hG ⟨1, r1, (show 1 < 2 by decide), hi1, .inl e⟩
end Vg
namespace Vg
open Go Go.Proofs Go.Shelf Go.RowKit
set_option maxRecDepth 100000
set_option maxHeartbeats 40000000
variable {P : Program} {ρ : Ren}
theorem qff (L : Lays.n169 P ρ) (X : Builder.Extra P ρ) (b g cap Tb : Nat) (p : Value) (cur : Array Value) (x : ByteArray) (w : World) (hx : x.data.toList ≠ [])
 (hbk : w.heap[b]? = some (.cells #[p, .slice (some ⟨g, 0, none⟩) x.size cap] Tb (0, 0))) (hg : w.heap[g]? = some (.cells cur (ρ.t 5) (0, 0))) (hcap : x.size ≤ cap) (hcm : cap ≤ maxLen) (hcs : cap ≤ cur.size)
 (hcells : ∀ (j : Nat) (c : UInt8), x.data.toList[j]? = some c → cur[j]? = some (Value.int .u8 (c.toNat : Int))) :
 Calls P (ρ.f 169) #[.pointer (some ⟨b, 0, none⟩)] w fun e w' => e = .returned (.string x) ∧ w' = w.drew.freeze ⟨g, 0, none⟩ x.size := by
 have hx0 : x.size ≠ 0 := fun e => hx (List.eq_nil_of_length_eq_zero e)
 have c1 : w.drew.cell? ⟨b, 1, none⟩ = some (.slice (some ⟨g, 0, none⟩) x.size cap) := by
  have : w.drew.heap[b]? = some (.cells #[p, .slice (some ⟨g, 0, none⟩) x.size cap] Tb (0, 0)) := hbk
  rw [Lib.cell_of_heap this]; rfl
 have hSD : (Builtin.unsafeSliceData_ #[(ρ.t 37)] (ρ.t 127) #[.slice (some ⟨g, 0, none⟩) x.size cap]).run P w.drew = .ok (.pointer (some ⟨g, 0, none⟩)) w.drew :=
  Lib.run_unsafeSliceData_row _ _ _ _ _ _ omG
 have hUS : (Builtin.unsafeString_ #[(ρ.t 127), (ρ.t 3)] (ρ.t 9) #[.pointer (some ⟨g, 0, none⟩), .int .i64 x.size]).run P w.drew = .ok (.string x) (w.drew.freeze ⟨g, 0, none⟩ x.size) :=
  Lib.run_unsafeString_row w.drew (ρ.t 127) (ρ.t 3) (ρ.t 9) (ρ.t 5) L.t127 X.cellsByte g cur.size (by have hg' : w.drew.heap[g]? = some (.cells cur (ρ.t 5) (0, 0)) := hg; simp [World.shape?, hg']) x.data.toList hx
   (by show x.size ≤ _; omega) (by show x.size ≤ _; unfold maxLen at hcm; omega) fun j c hj => by
    have hg' : w.drew.heap[g]? = some (.cells cur (ρ.t 5) (0, 0)) := hg
    have e := hcells j c hj
    rw [show ((⟨g, 0, none⟩ : Addr).add j) = ⟨g, j, none⟩ by rw [Vg.Addr.add_some, Nat.zero_add]]
    exact (Lib.cell_of_heap hg' j).trans e
 have mixed := L.mixed
 have t72 := L.t72; have a72 := L.a72; have z72 := L.z72; have v72 := L.v72; have u72 := run_underlying L.t72
 have t70 := L.t70; have a70 := L.a70; have z70 := L.z70; have v70 := L.v70; have u70 := run_underlying L.t70
 have t37 := L.t37; have a37 := L.a37; have z37 := L.z37; have v37 := L.v37; have u37 := run_underlying L.t37
 have t127 := L.t127; have a127 := L.a127; have z127 := L.z127; have v127 := L.v127; have u127 := run_underlying L.t127
 have t3 := L.t3; have a3 := L.a3; have z3 := L.z3; have v3 := L.v3; have u3 := run_underlying L.t3
 have t9 := L.t9; have a9 := L.a9; have z9 := L.z9; have v9 := L.v9; have u9 := run_underlying L.t9
 have t5 := X.t5; have a5 := X.a5; have z5 := X.z5; have v5 := X.v5; have u5 := run_underlying X.t5
 clear hbk hg hcells hcap hcm hcs hx hx0
 go_enter L.f169, Body.n169_ntmps ρ
 go_wp2
 go_region_o
 all_goals (go_wp2; go_ret; exact ⟨rfl, rfl⟩)
end Vg
