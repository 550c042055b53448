/- Terms of the program: copies in memory of their own; lists of good terms. Condition: terms are good. -/
import Derived.Test.YtgmpfaennbojaaaGreatTermL
import Derived.Test.YtgmpfaennbojaaaGreatTermV
import Derived.Test.YtgmpfaennbojaaaGreatRg
import Derived.Test.YtgmpfaennbojaaaGreatTermMk
import Derived.Test.YtgmpfaennbojaaaGreatBase
import Derived.Test.YtgmpfaennbojaaaGreatPoolL
namespace Vg
open Go Go.Proofs
theorem nilTreeF {P : Program} {f : FuncId} {args : List AV} {T : Nat} {κ : K} {l : List κ.T} {fr : Bool} (h : CallsF P f args fr fun res B => (res = .nils ∧ B = [] ∧ l.length = 0) ∨ (res = .row 0 ∧ B = [.tree T κ l])) :
    CallsF P f args fr fun res B => res = .row 0 ∧ B = [.tree T κ l] := by
  refine ⟨h.1, fun w Im vs h1 h2 h3 => ?_⟩
  refine (h.2 w Im vs h1 h2 h3).mono fun e w' he => ?_
  obtain ⟨v, res, B', ρ', Im', rfl, hR, hv, hE, hX⟩ := he
  rcases hR with ⟨rfl, rfl, hl⟩ | ⟨rfl, rfl⟩
  · obtain rfl := nils_val hv
    refine ⟨_, .row 0, [.tree T κ l], fun _ => none, Im', rfl, ⟨rfl, rfl⟩, .rowN 0 rfl, ⟨fun i b hi => ?_, fun i j r s x _ _ hr => (by cases hr), fun i r _ hr => (by cases hr), fun i r x _ hr => (by cases hr), fun i r x o _ hr => (by cases hr), hE.imlt, fun i b r o _ hr => (by cases hr)⟩,
      ⟨fun i r x _ hr => (by cases hr), hX.im0, hX.imNew, hX.keep, hX.frame, hX.grow, hX.os, hX.tape, hX.output, fun i p hp => (by cases hp)⟩⟩
    cases i with
    | zero => cases hi; exact hl
    | succ i => cases hi
  · exact ⟨_, _, _, ρ', Im', rfl, ⟨rfl, rfl⟩, hv, hE, hX⟩
theorem cp_3 {t : V.Term} (ht : okT t = true) : t.kids.length ≤ 3 := by
  have := (okT_n ht).len
  unfold kidN at this
  repeat' split at this
  all_goals omega
theorem ok_el {ks : List V.Term} {k : Nat} (h : (k : Int) < ks.length) (hk : okTs ks = true) : okT ⟨(ks.getD (k : Int).toNat K.terms.dflt).op, (ks.getD (k : Int).toNat K.terms.dflt).w, (ks.getD (k : Int).toNat K.terms.dflt).n, (ks.getD (k : Int).toNat K.terms.dflt).name, (ks.getD (k : Int).toNat K.terms.dflt).kids⟩ = true := by
  rw [V.Term.eta]
  exact okTs_at (i := k) hk (by omega)
structure IHcS (m : Nat) : Prop where
  call : ∀ (l : List V.Term), sizeTs l < m → okTs l = true → l.length ≤ 3 → CallsF Tryz.prog 49 [.dat (.seq .terms l)] true (fun res B => res = .row 0 ∧ B = [.tree 32 .terms l])
theorem ih_cS {m : Nat} (ih : IHcS m) {l : List V.Term} (hs : sizeTs l < m) (hk : okTs l = true) (hl : l.length ≤ 3) : CallsF Tryz.prog 49 [.dat (.seq .terms l)] true (fun res B => res = .row 0 ∧ B = [.tree 32 .terms l]) := ih.call l hs hk hl
set_option maxRecDepth 100000 in
theorem i_cT0 (m : Nat) (op w n : Int) (nm : ByteArray) (ks : List V.Term) (ih : IHcS m) (hm : sizeTs ks < m) (hk : okT ⟨op, w, n, nm, ks⟩ = true) : CallsF Tryz.prog 30 [.agg [.dat (.i op), .dat (.i w), .dat (.i n), .dat (.str nm), .dat (.seq .terms ks)]] true (fun res B => res = .agg [.dat (.i op), .dat (.i w), .dat (.i n), .dat (.str nm), .row 0] ∧ B = [.tree 32 .terms ks]) := by
  refine CallsF.of_awp tauOk mixOk Tryz.func30 rfl rfl rfl ?_
  conv => whnf
  repeat' (first | ((with_reducible refine fun (K1 : AX → AState → Prop) hK => ?_); refine stR ⟨?_⟩) | ((with_reducible show K1 _ _); subst hK; conv => whnf) | (with_reducible exact rfl) | refine st0 ⟨?_⟩ | ((with_reducible refine SplS.mk (fun h => ?_) (fun h => ?_)) <;> first | exact ctA | (subst h; conv => whnf) | (conv => whnf)) | ((with_reducible refine SplB.mk (fun h => ?_) (fun h => ?_)) <;> first | exact ctR | (conv => whnf)) | ((with_reducible refine and_of ?_ ?_); conv => whnf) | ((with_reducible refine fcI (g := 49) ?_); refine ⟨_, _, ih_cS (ih := by assumption) (hs := ?_) (hk := ?_) (hl := ?_) .., rfl, fun res B hRB => ?_⟩; rotate_right; obtain ⟨rfl, rfl⟩ := hRB; conv => whnf) | (intro h; conv => whnf))
  all_goals (repeat (clear hK; clear K1))
  all_goals first | (with_reducible assumption) | exact okT_ks hk | exact cp_3 hk | exact ⟨rfl, rfl⟩ | rfl | skip
structure IHcT (m : Nat) : Prop where
  call : ∀ (op w n : Int) (nm : ByteArray) (ks : List V.Term), sizeT ⟨op, w, n, nm, ks⟩ < m → okT ⟨op, w, n, nm, ks⟩ = true → CallsF Tryz.prog 30 [.agg [.dat (.i op), .dat (.i w), .dat (.i n), .dat (.str nm), .dat (.seq .terms ks)]] true (fun res B => res = .agg [.dat (.i op), .dat (.i w), .dat (.i n), .dat (.str nm), .row 0] ∧ B = [.tree 32 .terms ks])
theorem ih_cT {m : Nat} (ih : IHcT m) {op w n : Int} {nm : ByteArray} {ks : List V.Term} (hs : sizeT ⟨op, w, n, nm, ks⟩ < m) (hk : okT ⟨op, w, n, nm, ks⟩ = true) : CallsF Tryz.prog 30 [.agg [.dat (.i op), .dat (.i w), .dat (.i n), .dat (.str nm), .dat (.seq .terms ks)]] true (fun res B => res = .agg [.dat (.i op), .dat (.i w), .dat (.i n), .dat (.str nm), .row 0] ∧ B = [.tree 32 .terms ks]) := ih.call op w n nm ks hs hk
set_option maxRecDepth 100000 in
theorem i_cS0 (m : Nat) (l : List V.Term) (ih : IHcT m) (hm : sizeTs l < m) (hk : okTs l = true) (hl : l.length ≤ 3) : CallsF Tryz.prog 49 [.dat (.seq .terms l)] true (fun res B => (res = .nils ∧ B = [] ∧ l.length = 0) ∨ (res = .row 0 ∧ B = [.tree 32 .terms l])) := by
  refine CallsF.of_awp tauOk mixOk Tryz.func49 rfl rfl rfl ?_
  conv => whnf
  repeat' (first | ((with_reducible refine Alt.r ?_); conv => whnf) | ((with_reducible refine fun (K1 : AX → AState → Prop) hK => ?_); refine stR ⟨?_⟩) | ((with_reducible show K1 _ _); subst hK; conv => whnf) | (with_reducible exact rfl) | refine st0 ⟨?_⟩ | ((with_reducible refine SplS.mk (fun h => ?_) (fun h => ?_)) <;> first | exact ctA | (subst h; conv => whnf) | (conv => whnf)) | ((with_reducible refine SplB.mk (fun h => ?_) (fun h => ?_)) <;> first | exact ctR | (conv => whnf)) | (with_reducible first | refine bnd2 ?_ ?_ | refine bnd2' ?_ ?_ | refine bndN ?_ ?_) | ((with_reducible refine and_of ?_ ?_); conv => whnf) | (refine Exists.intro ({k : Nat // k ≤ l.length}) (Exists.intro (fun ⟨k, hq⟩ => mkS Tryz.f49.ntmps [(0, .dat (.seq .terms l)), (3, .row 10), (12, .dat (.i l.length)), (13, .dat (.i k))] [(10, .tree 32 .terms (l.take k ++ List.replicate (l.length - k) K.terms.dflt))]) (Exists.intro (fun ⟨k, hq⟩ => l.length - k) (Exists.intro ⟨0, Nat.zero_le _⟩ (And.intro (SubP.sub (σ := [(10, some 10)]) ⟨⟨rfl, rfl, rfl⟩, ⟨(wk_dat ?_), rfl, (wk_dat ?_), (wk_dat ?_), trivial⟩, ⟨⟨rfl, ?_⟩, trivial⟩⟩) (fun ⟨k, hq⟩ => ?_))))); rotate_right; conv => whnf) | (refine Exists.intro (⟨k + 1, ?_⟩ : {k : Nat // k ≤ l.length}) (And.intro ?_ (SubP.sub (σ := [(10, some 10)]) ⟨⟨rfl, rfl, rfl⟩, ⟨(wk_dat ?_), rfl, (wk_dat ?_), (wk_dat ?_), trivial⟩, ⟨⟨rfl, ?_⟩, trivial⟩⟩))) | ((with_reducible refine fcI (g := 30) ?_); refine ⟨_, _, ih_cT (ih := by assumption) (hs := ?_) (hk := ?_) .., rfl, fun res B hRB => ?_⟩; rotate_right; obtain ⟨rfl, rfl⟩ := hRB; conv => whnf) | (intro h; conv => whnf))
  all_goals (repeat (clear hK; clear K1))
  all_goals first | (with_reducible assumption) | ((with_reducible show (_ : Nat) < _); (dsimp only; omega)) | exact sz_el (by with_reducible assumption) hm | exact ok_el (by with_reducible assumption) hk | exact congrArg (Dat.int .i64) (wrap_succ (by with_reducible assumption) (by with_reducible assumption)).symm | exact sig_fin ((set_midT (by with_reducible assumption)).symm.trans (Eq.symm (by with_reducible assumption))) | exact sig_fin ((set_midT (by with_reducible assumption)).symm) | exact .inl ⟨rfl, rfl, by omega⟩ | exact .inr ⟨rfl, tree_fin (take_end (by with_reducible assumption))⟩ | exact Nat.le_trans (cp_3 (ok_el (by with_reducible assumption) hk)) (by decide) | ((with_reducible show (_ : Int) ≤ _); first | omega | (show (_ : Int) * ((64 : Nat) : Int) ≤ _; omega)) | ((with_reducible show (_ : Nat) ≤ _); omega) | (simp; omega) | rfl | skip
theorem cT_of {m : Nat} (ih : IHcS m) : IHcT (m + 1) := ⟨fun op w n nm ks hs hk => i_cT0 m op w n nm ks ih (by rw [sizeT] at hs; omega) hk⟩
theorem cS_all : ∀ m, IHcS m
  | 0 => ⟨fun _ h => absurd h (Nat.not_lt_zero _)⟩
  | m + 1 => ⟨fun l hs hk hl => nilTreeF (i_cS0 (m + 1) l (cT_of (cS_all m)) hs hk hl)⟩
theorem i_copyTerm (op w n : Int) (nm : ByteArray) (ks : List V.Term) (hk : okT ⟨op, w, n, nm, ks⟩ = true) : CallsF Tryz.prog 30 [.agg [.dat (.i op), .dat (.i w), .dat (.i n), .dat (.str nm), .dat (.seq .terms ks)]] true (fun res B => res = .agg [.dat (.i op), .dat (.i w), .dat (.i n), .dat (.str nm), .row 0] ∧ B = [.tree 32 .terms ks]) := (cT_of (cS_all (sizeT ⟨op, w, n, nm, ks⟩))).call op w n nm ks (Nat.lt_succ_self _) hk
/-! ### lists of good terms -/
noncomputable def termsP (w : Int) (l : List V.Term) : Bool := l.all fun t => decide (t.w = w) && termP t
theorem tp_at {w : Int} {l : List V.Term} {k : Nat} (h : (k : Int) < l.length) (h2 : (l.take k).all (fun t => decide (t.w = w) && termP t) = true) (hw : (l.getD (k : Int).toNat K.terms.dflt).w = w) (ht : termP ⟨(l.getD (k : Int).toNat K.terms.dflt).op, (l.getD (k : Int).toNat K.terms.dflt).w, (l.getD (k : Int).toNat K.terms.dflt).n, (l.getD (k : Int).toNat K.terms.dflt).name, (l.getD (k : Int).toNat K.terms.dflt).kids⟩ = true) : (l.take (k + 1)).all (fun t => decide (t.w = w) && termP t) = true := by
  rw [V.Term.eta, Int.toNat_natCast] at ht
  rw [Int.toNat_natCast] at hw
  rw [all_step K.terms.dflt h, h2, hw, ht]; simp
theorem tp_w {w : Int} {l : List V.Term} {k : Nat} (h : (k : Int) < l.length) (hw : ¬ (l.getD (k : Int).toNat K.terms.dflt).w = w) : termsP w l = false := by
  rw [Int.toNat_natCast] at hw
  exact all_no (d := K.terms.dflt) h (by rw [decide_eq_false hw]; rfl)
theorem tp_t {w : Int} {l : List V.Term} {k : Nat} (h : (k : Int) < l.length) (ht : termP ⟨(l.getD (k : Int).toNat K.terms.dflt).op, (l.getD (k : Int).toNat K.terms.dflt).w, (l.getD (k : Int).toNat K.terms.dflt).n, (l.getD (k : Int).toNat K.terms.dflt).name, (l.getD (k : Int).toNat K.terms.dflt).kids⟩ = false) : termsP w l = false := by
  rw [V.Term.eta, Int.toNat_natCast] at ht
  exact all_no (d := K.terms.dflt) h (by rw [ht, Bool.and_false])
structure TpK (w : Int) (l : List V.Term) (k : Nat) : Prop where
  h : (l.take k).all (fun t => decide (t.w = w) && termP t) = true
set_option maxRecDepth 100000 in
theorem i_termsOk0 (p : V.Prog) (l : List V.Term) : CallsV Tryz.prog 28 [.dat (.i p.w), .dat (.seq .terms l)] (.dat (.bool (termsP p.w l))) := by
  refine CallsV.of_awp tauOk mixOk Tryz.func28 rfl rfl rfl ?_
  conv => whnf
  repeat' (first | ((with_reducible refine fun (K1 : AX → AState → Prop) hK => ?_); refine stR ⟨?_⟩) | ((with_reducible show K1 _ _); subst hK; conv => whnf) | (with_reducible exact rfl) | refine st0 ⟨?_⟩ | ((with_reducible refine SplS.mk (fun h => ?_) (fun h => ?_)) <;> first | exact ctA | (subst h; conv => whnf) | (conv => whnf)) | ((with_reducible refine SplB.mk (fun h => ?_) (fun h => ?_)) <;> first | exact ctR | (conv => whnf)) | (with_reducible first | refine bnd2 ?_ ?_ | refine bnd2' ?_ ?_ | refine bndN ?_ ?_) | ((with_reducible refine and_of ?_ ?_); conv => whnf) | (refine Exists.intro ({k : Nat // TpK p.w l k}) (Exists.intro (fun ⟨k, hq⟩ => mkS Tryz.f28.ntmps [(0, .dat (.i p.w)), (1, .dat (.seq .terms l)), (7, .dat (.i l.length)), (8, .dat (.i k))] []) (Exists.intro (fun ⟨k, hq⟩ => l.length - k) (Exists.intro ⟨0, ?_⟩ (And.intro (SubP.sub (σ := []) ⟨⟨rfl, rfl, rfl⟩, ⟨(wk_dat ?_), (wk_dat ?_), (wk_dat ?_), (wk_dat ?_), trivial⟩, trivial⟩) (fun ⟨k, hq⟩ => ?_))))); rotate_right; conv => whnf) | (refine Exists.intro (⟨k + 1, ?_⟩ : {k : Nat // TpK p.w l k}) (And.intro ?_ (SubP.sub (σ := []) ⟨⟨rfl, rfl, rfl⟩, ⟨(wk_dat ?_), (wk_dat ?_), (wk_dat ?_), (wk_dat ?_), trivial⟩, trivial⟩))) | ((with_reducible refine pcI (g := 45) ?_); refine ⟨_, i_TermOk .., rfl, ?_⟩; rotate_right; conv => whnf) | ((with_reducible show Exists _); refine Exists.intro _ (And.intro (i_TermOk ..) (And.intro rfl ?_)); rotate_right; conv => whnf) | (intro h; conv => whnf))
  all_goals (repeat (clear hK; clear K1))
  all_goals first | (with_reducible assumption) | exact ⟨rfl⟩ | ((with_reducible show (_ : Nat) < _); (dsimp only; omega)) | ((with_reducible show (_ : Int) ≤ _); omega) | ((with_reducible show (_ : Int) < _); with_reducible assumption) | exact congrArg (Dat.int .i64) (wrap_succ (by with_reducible assumption) (by with_reducible assumption)).symm | exact ⟨tp_at (by with_reducible assumption) hq.h (by with_reducible assumption) (by with_reducible assumption)⟩ | exact congrArg Dat.bool (tp_w (by with_reducible assumption) (by with_reducible assumption)) | exact congrArg Dat.bool (tp_t (by with_reducible assumption) (by with_reducible assumption)) | exact congrArg Dat.bool (all_end (by with_reducible assumption) hq.h) | rfl | skip
theorem i_termsOk (w : Int) (l : List V.Term) : CallsV Tryz.prog 28 [.dat (.i w), .dat (.seq .terms l)] (.dat (.bool (termsP w l))) := i_termsOk0 ⟨w, 0, 0, []⟩ l
theorem nmT_el {l : List V.Term} {k : Nat} (h : (k : Int) < l.length) (hn : nmTs l = true) : nmT ⟨(l.getD (k : Int).toNat K.terms.dflt).op, (l.getD (k : Int).toNat K.terms.dflt).w, (l.getD (k : Int).toNat K.terms.dflt).n, (l.getD (k : Int).toNat K.terms.dflt).name, (l.getD (k : Int).toNat K.terms.dflt).kids⟩ = true := by
  rw [V.Term.eta, Int.toNat_natCast]
  have : ∀ {l : List V.Term} {k : Nat}, nmTs l = true → k < l.length → nmT (l.getD k K.terms.dflt) = true := by
    intro l
    induction l with
    | nil => intro k _ hk; exact absurd hk (Nat.not_lt_zero _)
    | cons t ts ih =>
      intro k hn hk
      rw [nmTs, Bool.and_eq_true] at hn
      cases k with
      | zero => exact hn.1
      | succ k => exact ih hn.2 (by simpa using hk)
  exact this hn (by omega)
set_option maxRecDepth 100000 in
theorem s_l06Terms0 (p : V.Prog) (l : List V.Term) (hn : nmTs l = true) : CallsV Tryz.prog 21 [.dat (.seq .terms l), .dat (.i p.w)] (.dat (.bool (termsP p.w l))) := by
  refine CallsV.of_awp tauOk mixOk Tryz.func21 rfl rfl rfl ?_
  conv => whnf
  repeat' (first | ((with_reducible refine fun (K1 : AX → AState → Prop) hK => ?_); refine stR ⟨?_⟩) | ((with_reducible show K1 _ _); subst hK; conv => whnf) | (with_reducible exact rfl) | refine st0 ⟨?_⟩ | ((with_reducible refine SplS.mk (fun h => ?_) (fun h => ?_)) <;> first | exact ctA | (subst h; conv => whnf) | (conv => whnf)) | ((with_reducible refine SplB.mk (fun h => ?_) (fun h => ?_)) <;> first | exact ctR | (conv => whnf)) | (with_reducible first | refine bnd2 ?_ ?_ | refine bnd2' ?_ ?_ | refine bndN ?_ ?_) | ((with_reducible refine and_of ?_ ?_); conv => whnf) | (refine Exists.intro ({k : Nat // TpK p.w l k}) (Exists.intro (fun ⟨k, hq⟩ => mkS Tryz.f21.ntmps [(1, .dat (.i p.w)), (7, .dat (.seq .terms l)), (8, .dat (.i l.length)), (9, .dat (.i k))] []) (Exists.intro (fun ⟨k, hq⟩ => l.length - k) (Exists.intro ⟨0, ?_⟩ (And.intro (SubP.sub (σ := []) ⟨⟨rfl, rfl, rfl⟩, ⟨(wk_dat ?_), (wk_dat ?_), (wk_dat ?_), (wk_dat ?_), trivial⟩, trivial⟩) (fun ⟨k, hq⟩ => ?_))))); rotate_right; conv => whnf) | (refine Exists.intro (⟨k + 1, ?_⟩ : {k : Nat // TpK p.w l k}) (And.intro ?_ (SubP.sub (σ := []) ⟨⟨rfl, rfl, rfl⟩, ⟨(wk_dat ?_), (wk_dat ?_), (wk_dat ?_), (wk_dat ?_), trivial⟩, trivial⟩))) | ((with_reducible refine pcI (g := 39) ?_); refine ⟨_, s_TermOk (hn := ?_) .., rfl, ?_⟩; rotate_right; conv => whnf) | ((with_reducible show Exists _); refine Exists.intro _ (And.intro (s_TermOk (hn := ?_) ..) (And.intro rfl ?_)); rotate_right; conv => whnf) | (intro h; conv => whnf))
  all_goals (repeat (clear hK; clear K1))
  all_goals first | (with_reducible assumption) | exact ⟨rfl⟩ | ((with_reducible show (_ : Nat) < _); (dsimp only; omega)) | ((with_reducible show (_ : Int) ≤ _); omega) | ((with_reducible show (_ : Int) < _); with_reducible assumption) | exact nmT_el (by with_reducible assumption) hn | exact congrArg (Dat.int .i64) (wrap_succ (by with_reducible assumption) (by with_reducible assumption)).symm | exact ⟨tp_at (by with_reducible assumption) hq.h (by with_reducible assumption) (by with_reducible assumption)⟩ | exact congrArg Dat.bool (tp_w (by with_reducible assumption) (by with_reducible assumption)) | exact congrArg Dat.bool (tp_t (by with_reducible assumption) (by with_reducible assumption)) | exact congrArg Dat.bool (all_end (by with_reducible assumption) hq.h) | rfl | skip
theorem s_l06Terms (w : Int) (l : List V.Term) (hn : nmTs l = true) : CallsV Tryz.prog 21 [.dat (.seq .terms l), .dat (.i w)] (.dat (.bool (termsP w l))) := s_l06Terms0 ⟨w, 0, 0, []⟩ l hn
end Vg

namespace Vg
open Go Go.Proofs
noncomputable def nlP (a b : V.Term) : V.Term × Bool := if (mkP 15 1 0 [a, b]).2 = true then mkP 1 1 0 [(mkP 15 1 0 [a, b]).1] else (zT, false)
noncomputable def ftP (w k a b n : Int) (rg : List V.Term) : V.Term × Bool :=
  if k = 1 then mkP 14 1 0 [cT w n, rg.getD a.toNat K.terms.dflt]
  else if k = 2 then mkP 14 1 0 [rg.getD a.toNat K.terms.dflt, rg.getD b.toNat K.terms.dflt]
  else if k = 3 then nlP (cT w n) (rg.getD a.toNat K.terms.dflt)
  else if k = 4 then (if (mkP 19 1 b [rg.getD a.toNat K.terms.dflt]).2 = true then mkP 14 1 0 [cT 1 n, (mkP 19 1 b [rg.getD a.toNat K.terms.dflt]).1] else (zT, false))
  else if k = 5 then (if (mkP 3 w 0 [rg.getD a.toNat K.terms.dflt, rg.getD b.toNat K.terms.dflt]).2 = true then mkP 14 1 0 [cT w n, (mkP 3 w 0 [rg.getD a.toNat K.terms.dflt, rg.getD b.toNat K.terms.dflt]).1] else (zT, false))
  else nlP (rg.getD b.toNat K.terms.dflt) (rg.getD a.toNat K.terms.dflt)
theorem nl_n {a b : V.Term} (h : (mkP 15 1 0 [a, b]).2 = false) : nlP a b = (zT, false) := by
  unfold nlP
  rw [if_neg (by rw [h]; decide)]
theorem nl_y {a b : V.Term} (h : (mkP 15 1 0 [a, b]).2 = true) : nlP a b = mkP 1 1 0 [(mkP 15 1 0 [a, b]).1] := by
  unfold nlP
  rw [if_pos h]
end Vg
