/- Terms of the program: copies in memory of their own; lists of good terms. Condition: terms are good. -/
import Derived.Test.YtndmanmhalpjgaaGreatDoorTermL
import Derived.Test.YtndmanmhalpjgaaGreatDoorEvQ
import Derived.Test.YtndmanmhalpjgaaGreatDoorRg
import Derived.Test.YtndmanmhalpjgaaGreatDoorTermMS
import Derived.Test.YtndmanmhalpjgaaGreatDoorBase
import Derived.Test.YtndmanmhalpjgaaGreatDoorPoolL
import Derived.Test.YtndmanmhalpjgaaGreatDoorTermI
namespace Vg
open Go Go.Proofs
set_option maxRecDepth 100000
set_option maxHeartbeats 40000000
theorem rX {P : Program} {f : FuncId} {args : List AV} {T : Nat} {κ : K} {l : List κ.T} {fr : Bool} (h : CallsF P f args fr fun res B => (res = .nils ∧ B = [] ∧ l.length = 0) ∨ (res = .row 0 ∧ B = [.tree T κ l])) :
    CallsF P f args fr fun res B => res = .row 0 ∧ B = [.tree T κ l] := by
  refine ⟨h.1, fun w Im vs h1 h2 h3 => ?_⟩
  refine (h.2 w Im vs h1 h2 h3).mono fun e w' he => ?_
  obtain ⟨v, res, B', ρ', Im', rfl, hR, hv, hE, hX⟩ := he
  rcases hR with ⟨rfl, rfl, hl⟩ | ⟨rfl, rfl⟩
  · obtain rfl := uC hv
    refine ⟨_, .row 0, [.tree T κ l], fun _ => none, Im', rfl, ⟨rfl, rfl⟩, .rowN 0 rfl, ⟨fun i b hi => ?_, fun i j r s x _ _ hr => (by cases hr), fun i r _ hr => (by cases hr), fun i r x _ hr => (by cases hr), fun i r x o _ hr => (by cases hr), hE.imlt, fun i b r o _ hr => (by cases hr)⟩,
      ⟨fun i r x _ hr => (by cases hr), hX.im0, hX.imNew, hX.keep, hX.frame, hX.grow, hX.os, hX.tape, hX.output, fun i p hp => (by cases hp)⟩⟩
    cases i with
    | zero => cases hi; exact hl
    | succ i => cases hi
  · exact ⟨_, _, _, ρ', Im', rfl, ⟨rfl, rfl⟩, hv, hE, hX⟩
theorem cp_3 {t : V.Term} (ht : okT t = true) : t.kids.length ≤ 3 := by
  have := (l8 ht).len
  unfold d9 at this
  repeat' split at this
  all_goals omega
theorem ok_el {ks : List V.Term} {k : Nat} (h : (k : Int) < ks.length) (hk : f8 ks = true) : okT ⟨(ks.getD (k : Int).toNat K.terms.dflt).op, (ks.getD (k : Int).toNat K.terms.dflt).w, (ks.getD (k : Int).toNat K.terms.dflt).n, (ks.getD (k : Int).toNat K.terms.dflt).name, (ks.getD (k : Int).toNat K.terms.dflt).kids⟩ = true := by
  rw [V.Term.eta]
  exact vM (i := k) hk omG
structure IHcS (m : Nat) : Prop where
  call : ∀ (l : List V.Term), i7 l < m → f8 l = true → l.length ≤ 3 → CallsF Tryz.prog 52 [.dat (.seq .terms l)] true (fun res B => res = .row 0 ∧ B = [.tree 39 .terms l])
theorem ih_cS {m : Nat} (ih : IHcS m) {l : List V.Term} (hs : i7 l < m) (hk : f8 l = true) (hl : l.length ≤ 3) : CallsF Tryz.prog 52 [.dat (.seq .terms l)] true (fun res B => res = .row 0 ∧ B = [.tree 39 .terms l]) := ih.call l hs hk hl
theorem i_cT0 (m : Nat) (op w n : Int) (nm : ByteArray) (ks : List V.Term) (ih : IHcS m) (hm : i7 ks < m) (hk : okT ⟨op, w, n, nm, ks⟩ = true) : CallsF Tryz.prog 30 [.agg [.dat (.i op), .dat (.i w), .dat (.i n), .dat (.str nm), .dat (.seq .terms ks)]] true (fun res B => res = .agg [.dat (.i op), .dat (.i w), .dat (.i n), .dat (.str nm), .row 0] ∧ B = [.tree 39 .terms ks]) := by
  refine oF Tryz.func30 ⟨?_⟩
  repeat' (first | ((with_reducible refine fun (K1 : KT) hK => ?_); refine iA ⟨?_⟩) | ((with_reducible show K1 _ _); subst hK; conv => whnf) | (with_reducible exact rfl) | refine m0 ⟨?_⟩ | ((with_reducible refine SplS.mk (fun h => ?_) (fun h => ?_)) <;> first | exact z1 | (subst h; conv => whnf) | (conv => whnf)) | refine u2 ⟨?_⟩ ⟨?_⟩ | ((with_reducible refine vB (g := 52) ?_); refine ⟨_, _, ih_cS (ih := by assumption) (hs := ?_) (hk := ?_) (hl := ?_) .., rfl, zV ?_⟩; rotate_right; conv => whnf) | (intro h; conv => whnf))
  all_goals repeat clear hK K1
  all_goals first | (with_reducible assumption) | exact pR hk | exact cp_3 hk | exact ⟨rfl, rfl⟩ | rfl | skip
structure IHcT (m : Nat) : Prop where
  call : ∀ (op w n : Int) (nm : ByteArray) (ks : List V.Term), sizeT ⟨op, w, n, nm, ks⟩ < m → okT ⟨op, w, n, nm, ks⟩ = true → CallsF Tryz.prog 30 [.agg [.dat (.i op), .dat (.i w), .dat (.i n), .dat (.str nm), .dat (.seq .terms ks)]] true (fun res B => res = .agg [.dat (.i op), .dat (.i w), .dat (.i n), .dat (.str nm), .row 0] ∧ B = [.tree 39 .terms ks])
theorem ih_cT {m : Nat} (ih : IHcT m) {op w n : Int} {nm : ByteArray} {ks : List V.Term} (hs : sizeT ⟨op, w, n, nm, ks⟩ < m) (hk : okT ⟨op, w, n, nm, ks⟩ = true) : CallsF Tryz.prog 30 [.agg [.dat (.i op), .dat (.i w), .dat (.i n), .dat (.str nm), .dat (.seq .terms ks)]] true (fun res B => res = .agg [.dat (.i op), .dat (.i w), .dat (.i n), .dat (.str nm), .row 0] ∧ B = [.tree 39 .terms ks]) := ih.call op w n nm ks hs hk
theorem i_cS0 (m : Nat) (l : List V.Term) (ih : IHcT m) (hm : i7 l < m) (hk : f8 l = true) (hl : l.length ≤ 3) : CallsF Tryz.prog 52 [.dat (.seq .terms l)] true (fun res B => (res = .nils ∧ B = [] ∧ l.length = 0) ∨ (res = .row 0 ∧ B = [.tree 39 .terms l])) := by
  refine oF Tryz.func52 ⟨?_⟩
  repeat' (first | ((with_reducible refine Alt.r ?_); conv => whnf) | ((with_reducible refine fun (K1 : KT) hK => ?_); refine iA ⟨?_⟩) | ((with_reducible show K1 _ _); subst hK; conv => whnf) | (with_reducible exact rfl) | refine m0 ⟨?_⟩ | ((with_reducible refine SplS.mk (fun h => ?_) (fun h => ?_)) <;> first | exact z1 | (subst h; conv => whnf) | (conv => whnf)) | refine u2 ⟨?_⟩ ⟨?_⟩ | (refine Exists.intro ({k : Nat // k ≤ l.length}) (Exists.intro (fun ⟨k, hq⟩ => z7 Tryz.f52.ntmps [(0, .dat (.seq .terms l)), (3, .row 10), (12, .dat (.i l.length)), (13, .dat (.i k))] [(10, .tree 39 .terms (l.take k ++ List.replicate (l.length - k) K.terms.dflt))]) (Exists.intro (fun ⟨k, hq⟩ => l.length - k) (Exists.intro ⟨0, Nat.zero_le _⟩ (And.intro (SubP.sub (σ := [(10, some 10)]) ⟨⟨rfl, rfl, rfl⟩, ⟨r0 ?_, rfl, r0 ?_, r0 ?_, trivial⟩, ⟨⟨rfl, ?_⟩, trivial⟩⟩) (fun ⟨k, hq⟩ => ?_))))); rotate_right; conv => whnf) | (refine Exists.intro (⟨k + 1, ?_⟩ : {k : Nat // k ≤ l.length}) (And.intro ?_ (SubP.sub (σ := [(10, some 10)]) ⟨⟨rfl, rfl, rfl⟩, ⟨r0 ?_, rfl, r0 ?_, r0 ?_, trivial⟩, ⟨⟨rfl, ?_⟩, trivial⟩⟩))) | ((with_reducible refine vB (g := 30) ?_); refine ⟨_, _, ih_cT (ih := by assumption) (hs := ?_) (hk := ?_) .., rfl, zV ?_⟩; rotate_right; conv => whnf) | (intro h; conv => whnf))
  all_goals repeat clear hK K1
  all_goals first | (with_reducible assumption) | ((with_reducible show (_ : Nat) < _); (dsimp only; omega)) | exact sz_el asmR hm | exact ok_el asmR hk | exact congrArg (Dat.int .i64) (wE asmR asmR).symm | exact zP ((aQ asmR).symm.trans (Eq.symm asmR)) | exact zP ((aQ asmR).symm) | exact .inl ⟨rfl, rfl, by omega⟩ | exact .inr ⟨rfl, eW (gW asmR)⟩ | exact Nat.le_trans (cp_3 (ok_el asmR hk)) (by decide) | ((with_reducible show (_ : Int) ≤ _); first | omega | (show (_ : Int) * ((64 : Nat) : Int) ≤ _; omega)) | ((with_reducible show (_ : Nat) ≤ _); omega) | (simp; omega) | rfl | skip
theorem cT_of {m : Nat} (ih : IHcS m) : IHcT (m + 1) := ⟨fun op w n nm ks hs hk => i_cT0 m op w n nm ks ih (by rw [sizeT] at hs; omega) hk⟩
theorem dV : ∀ m, IHcS m
  | 0 => ⟨fun _ h => absurd h (Nat.not_lt_zero _)⟩
  | m + 1 => ⟨fun l hs hk hl => rX (i_cS0 (m + 1) l (cT_of (dV m)) hs hk hl)⟩
theorem nZ (op w n : Int) (nm : ByteArray) (ks : List V.Term) (hk : okT ⟨op, w, n, nm, ks⟩ = true) : CallsF Tryz.prog 30 [.agg [.dat (.i op), .dat (.i w), .dat (.i n), .dat (.str nm), .dat (.seq .terms ks)]] true (fun res B => res = .agg [.dat (.i op), .dat (.i w), .dat (.i n), .dat (.str nm), .row 0] ∧ B = [.tree 39 .terms ks]) := (cT_of (dV (sizeT ⟨op, w, n, nm, ks⟩))).call op w n nm ks (Nat.lt_succ_self _) hk
theorem tY (p : V.Prog) (l : List V.Term) : CallsV Tryz.prog 28 [.dat (.i p.w), .dat (.seq .terms l)] (.dat (.bool (fD p.w l))) := by
  refine oV Tryz.func28 ⟨?_⟩
  repeat' (first | ((with_reducible refine fun (K1 : KT) hK => ?_); refine iA ⟨?_⟩) | ((with_reducible show K1 _ _); subst hK; conv => whnf) | (with_reducible exact rfl) | refine m0 ⟨?_⟩ | ((with_reducible refine SplS.mk (fun h => ?_) (fun h => ?_)) <;> first | exact z1 | (subst h; conv => whnf) | (conv => whnf)) | refine u2 ⟨?_⟩ ⟨?_⟩ | (refine Exists.intro ({k : Nat // TpK p.w l k}) (Exists.intro (fun ⟨k, hq⟩ => z7 Tryz.f28.ntmps [(0, .dat (.i p.w)), (1, .dat (.seq .terms l)), (7, .dat (.i l.length)), (8, .dat (.i k))] []) (Exists.intro (fun ⟨k, hq⟩ => l.length - k) (Exists.intro ⟨0, ?_⟩ (And.intro (SubP.sub (σ := []) ⟨⟨rfl, rfl, rfl⟩, ⟨r0 ?_, r0 ?_, r0 ?_, r0 ?_, trivial⟩, trivial⟩) (fun ⟨k, hq⟩ => ?_))))); rotate_right; conv => whnf) | (refine Exists.intro (⟨k + 1, ?_⟩ : {k : Nat // TpK p.w l k}) (And.intro ?_ (SubP.sub (σ := []) ⟨⟨rfl, rfl, rfl⟩, ⟨r0 ?_, r0 ?_, r0 ?_, r0 ?_, trivial⟩, trivial⟩))) | ((with_reducible first | refine g0 (g := 48) ?_ | show Exists _); refine ⟨_, gT .., rfl, ?_⟩; rotate_right; conv => whnf) | (intro h; conv => whnf))
  all_goals repeat clear hK K1
  all_goals first | (with_reducible assumption) | exact ⟨rfl⟩ | ((with_reducible show (_ : Nat) < _); (dsimp only; omega)) | ((with_reducible show (_ : Int) ≤ _); omega) | ((with_reducible show (_ : Int) < _); with_reducible assumption) | exact congrArg (Dat.int .i64) (wE asmR asmR).symm | exact ⟨tp_at asmR hq.h asmR asmR⟩ | exact congrArg Dat.bool (tp_w asmR asmR) | exact congrArg Dat.bool (tp_t asmR asmR) | exact congrArg Dat.bool (lL asmR hq.h) | rfl | skip
theorem uY (w : Int) (l : List V.Term) : CallsV Tryz.prog 28 [.dat (.i w), .dat (.seq .terms l)] (.dat (.bool (fD w l))) := tY ⟨w, 0, 0, []⟩ l
noncomputable def p9 (a b : V.Term) : V.Term × Bool := if (p4 15 1 0 [a, b]).2 = true then p4 1 1 0 [(p4 15 1 0 [a, b]).1] else (zT, false)
noncomputable def g6 (w k a b n : Int) (rg : List V.Term) : V.Term × Bool :=
  if k = 1 then p4 14 1 0 [cT w n, rg.getD a.toNat K.terms.dflt]
  else if k = 2 then p4 14 1 0 [rg.getD a.toNat K.terms.dflt, rg.getD b.toNat K.terms.dflt]
  else if k = 3 then p9 (cT w n) (rg.getD a.toNat K.terms.dflt)
  else if k = 4 then (if (p4 19 1 b [rg.getD a.toNat K.terms.dflt]).2 = true then p4 14 1 0 [cT 1 n, (p4 19 1 b [rg.getD a.toNat K.terms.dflt]).1] else (zT, false))
  else if k = 5 then (if (p4 3 w 0 [rg.getD a.toNat K.terms.dflt, rg.getD b.toNat K.terms.dflt]).2 = true then p4 14 1 0 [cT w n, (p4 3 w 0 [rg.getD a.toNat K.terms.dflt, rg.getD b.toNat K.terms.dflt]).1] else (zT, false))
  else p9 (rg.getD b.toNat K.terms.dflt) (rg.getD a.toNat K.terms.dflt)
theorem nl_n {a b : V.Term} (h : (p4 15 1 0 [a, b]).2 = false) : p9 a b = (zT, false) := by
  unfold p9
  rw [if_neg (by rw [h]; decide)]
theorem nl_y {a b : V.Term} (h : (p4 15 1 0 [a, b]).2 = true) : p9 a b = p4 1 1 0 [(p4 15 1 0 [a, b]).1] := by
  unfold p9
  rw [if_pos h]
end Vg
