/- The law FnStepped: of the paths after a step, one holds for each test for which the path held, and its state is the next one. No condition. -/
import Derived.Test.YtfjkpndogncdcaaGreatDoorStp
import Derived.Test.YtfjkpndogncdcaaGreatDoorGivP
namespace Vg
open Go Go.Proofs
set_option maxRecDepth 100000
set_option maxHeartbeats 40000000
theorem qea {l : List Int} {k : Nat} (h : k < l.length) : l.getD k K.ints.dflt = l[k] := by
  rw [List.getD_eq_getElem?_getD, List.getElem?_eq_getElem h, Option.getD_some]
theorem qhi {a b : List Int} {k : Nat} (hk : a.take k = b.take k) (ha : (k : Int) < a.length) (hb : (k : Int) < b.length) (he : b.getD (k : Int).toNat K.ints.dflt = a.getD (k : Int).toNat K.ints.dflt) : a.take (k + 1) = b.take (k + 1) := by
  have h1 : k < a.length := by omega
  have h2 : k < b.length := by omega
  rw [Int.toNat_natCast, qea h1, qea h2] at he
  rw [List.take_succ_eq_append_getElem h1, List.take_succ_eq_append_getElem h2, hk, he]
theorem ints_end {a b : List Int} {k : Nat} (hb : k <= b.length) (hk : a.take k = b.take k) (ha : ¬ (k : Int) < a.length) : Dat.bool ((a.length : Int) == b.length) = Dat.bool (decide (a = b)) := by
  refine congrArg Dat.bool ?_
  rw [Bool.eq_iff_iff, beq_iff_eq, decide_eq_true_iff]
  constructor
  . intro h
    rw [List.take_of_length_le omG, List.take_of_length_le omG] at hk
    exact hk
  . intro h; rw [h]
structure IntsI (a b : List Int) (k : Nat) : Prop where
  le : k <= b.length
  eq : a.take k = b.take k
theorem ints_s {a b : List Int} {k : Nat} (hk : IntsI a b k) (ha : (k : Int) < a.length) (hb : ¬ (k : Int) >= b.length) (he : b.getD (k : Int).toNat K.ints.dflt = a.getD (k : Int).toNat K.ints.dflt) : IntsI a b (k + 1) :=
  ⟨by omega, qhi hk.eq ha omG he⟩
theorem l_ints (a b : List Int) : CallsV Tryz.prog 43 [.dat (.seq .ints a), .dat (.seq .ints b)] (.dat (.bool (decide (a = b)))) := by
  refine oV Tryz.func43 ⟨?_⟩
  repeat' (first | ((with_reducible refine fun (K1 : KT) hK => ?_); refine z2 ⟨?_⟩) | ((with_reducible show K1 _ _); subst hK; conv => whnf) | (with_reducible exact rfl) | refine st0 ⟨?_⟩ | ((with_reducible refine SplS.mk (fun h => ?_) (fun h => ?_)) <;> first | exact m4 | (subst h; conv => whnf) | (conv => whnf)) | refine s1 ⟨?_⟩ ⟨?_⟩ | (refine l5 ({k : Nat // IntsI a b k}) (fun ⟨k, hk⟩ => j5 Tryz.f43.ntmps [(0, .dat (.seq .ints a)), (1, .dat (.seq .ints b)), (7, .dat (.seq .ints a)), (8, .dat (.i a.length)), (9, .dat (.i k))] []) (fun ⟨k, hk⟩ => a.length - k) ⟨0, ⟨Nat.zero_le _, rfl⟩⟩ (SubP.sub (σ := []) ⟨⟨rfl, rfl, rfl⟩, ⟨o0 ?_, o0 ?_, o0 ?_, o0 ?_, o0 ?_, trivial⟩, trivial⟩) (fun ⟨k, hk⟩ => ?_); rotate_right; conv => whnf) | (refine p5 (⟨k + 1, ?_⟩ : {k : Nat // IntsI a b k}) ?_ (SubP.sub (σ := []) ⟨⟨rfl, rfl, rfl⟩, ⟨o0 ?_, o0 ?_, o0 ?_, o0 ?_, o0 ?_, trivial⟩, trivial⟩)) | (intro h; conv => whnf))
  all_goals repeat clear hK K1
  all_goals first | (with_reducible assumption) | exact congrArg Dat.bool (decide_eq_false (fun e => by subst e; omega)) | exact ints_s hk asmR asmR asmR | exact (ints_end hk.le hk.eq asmR).symm | exact congrArg (Dat.int .i64) (wrap_succ asmR asmR).symm | exact (rfl : Dat.i ((0 : Nat) : Int) = Dat.int .i64 0) | omega | (dsimp only; omega) | skip
theorem qkk (pc : Int) (rg mm sk : List Int) (ic : Int) (ot : List Int) (cd sp : Int) (pc' : Int) (rg' mm' sk' : List Int) (ic' : Int) (ot' : List Int) (cd' sp' : Int) : CallsV Tryz.prog 16 [.agg [.dat (.i pc), .dat (.seq .ints rg), .dat (.seq .ints mm), .dat (.seq .ints sk), .dat (.i ic), .dat (.seq .ints ot), .dat (.i cd), .dat (.i sp)], .agg [.dat (.i pc'), .dat (.seq .ints rg'), .dat (.seq .ints mm'), .dat (.seq .ints sk'), .dat (.i ic'), .dat (.seq .ints ot'), .dat (.i cd'), .dat (.i sp')]] (.dat (.bool (decide ((⟨pc, rg, mm, sk, ic, ot, cd, sp⟩ : V.State) = ⟨pc', rg', mm', sk', ic', ot', cd', sp'⟩)))) := by
  refine oV Tryz.func16 ⟨?_⟩
  repeat' (first | ((with_reducible refine fun (K1 : KT) hK => ?_); refine z2 ⟨?_⟩) | ((with_reducible show K1 _ _); subst hK; conv => whnf) | refine st0 ⟨?_⟩ | ((with_reducible refine SplS.mk (fun h => ?_) (fun h => ?_)) <;> first | exact m4 | (subst h; conv => whnf) | (conv => whnf)) | refine vP (l_ints ..) ⟨?_⟩ | fail)
  all_goals repeat clear hK K1
  all_goals first | (simp [*]; done) | (simp_all; done) | (refine congrArg Dat.bool ?_; rw [Bool.eq_iff_iff]; simp; done) | skip
section
variable {p : V.Prog} {s : V.Path} {x : List Int} {f : Nat}
theorem st_px (hi : s8 p x = true) : PX p (x7 p (g7 p) f x) := (qej (mB hi).2 f _ (qgx (mB hi).1) rfl).1
theorem st_c (h : ¬ s.code = 0) (hn : ((z1 p s).length : Int) > 0) {C : Prop} : C := by
  have e : z1 p s = [] := by unfold z1; rw [if_pos (.inl h)]
  rw [e] at hn; exact absurd hn (by decide)
theorem kK (hx : PX p s) (hb : k8 p (r0 x) s = true) : d7 (r0 x) s = true := (yG hx).symm.trans hb
theorem st_cn (hx : PX p s) (hb : k8 p (r0 x) s = false) : d7 (r0 x) s = false := (yG hx).symm.trans hb
theorem st_c0 (hn : (z1 p s).length ≠ 0) : s.code = 0 := by
  by_cases h : s.code = 0
  . exact h
  . exact absurd (by unfold z1; rw [if_pos (.inl h)]; rfl) hn
theorem st_e0 {C : Prop} (hx : PX p s) (hb : d7 (r0 x) s = false \/ (z1 p s).length = 0) (h : ((sA p (r0 x) (z1 p s) (z1 p s).length).length : Int) > 0) : C := by
  rw [qhq hx hb] at h; exact absurd h (by decide)
theorem st_e1 {C : Prop} (hx : PX p s) (hb : ((z1 p s).length : Int) = 0) (h : ((sA p (r0 x) (z1 p s) (z1 p s).length).length : Int) > 0) : C := st_e0 hx (.inr omG) h
theorem st_e2 {C : Prop} (hx : PX p s) (hb : k8 p (r0 x) s = false) (h : ((sA p (r0 x) (z1 p s) (z1 p s).length).length : Int) > 0) : C := st_e0 hx (.inl (st_cn hx hb)) h
theorem on_no {C : Prop} {n L : Nat} (h : [(n : Int)].getD (Int.toNat 0) K.ints.dflt >= (L : Int)) (hn : n < L) : C := by
  have h' : (n : Int) >= (L : Int) := h
  omega
theorem st_no {C : Prop} (hx : PX p s) (hi : s8 p x = true) (hb : k8 p (r0 x) s = true) (hn : (z1 p s).length ≠ 0) (h9 : ¬ (bC p (r0 x) s).code = 9) (h : decide (k5 (r0 x) (bC p (r0 x) s) = gB p (evH p (r0 x) s) x) = false) : C := by
  have e := qho hx (mB hi).2 (kK hx hb) hn h9
  rw [wW hb] at h
  exact absurd e (of_decide_eq_false h)
theorem st_m (hx : PX p s) (hi : s8 p x = true) (hb : k8 p (r0 x) s = true) (hn : (z1 p s).length ≠ 0) : MOk p (evH p (r0 x) s) := by
  rw [wW hb]; exact ev_mok hx (mB hi).2 (st_c0 hn)
theorem al_at {p : V.Prog} (hp : f4 p = true) {k : Nat} (hk : (k : Int) < (aD p.w p.inn).length) : s8 p ((aD p.w p.inn).getD (k : Int).toNat K.intss.dflt) = true := by
  refine allI_in hp ?_
  rw [Int.toNat_natCast, List.getD_eq_getElem?_getD, List.getElem?_eq_getElem omG]
  exact List.getElem_mem _
end
theorem l_endsY (w mem inn : Int) (code : List V.Ins) (pc : Int) (rg mm : List V.Term) (sk : List Int) (ic : Int) (ot : List V.Term) (cd sp : Int) (cn : List V.Term) (tr : List Int) (inp : List Int) (hx : PX ⟨w, mem, inn, code⟩ ⟨pc, rg, mm, sk, ic, ot, cd, sp, cn, tr⟩) (hi : s8 ⟨w, mem, inn, code⟩ inp = true) (hc : d7 (r0 inp) ⟨pc, rg, mm, sk, ic, ot, cd, sp, cn, tr⟩ = true) (hn : (z1 ⟨w, mem, inn, code⟩ ⟨pc, rg, mm, sk, ic, ot, cd, sp, cn, tr⟩).length ≠ 0) : CallsV Tryz.prog 13 [.agg [.dat (.i w), .dat (.i mem), .dat (.i inn), .dat (.seq .inss code)], .dat (.seq .paths (z1 ⟨w, mem, inn, code⟩ ⟨pc, rg, mm, sk, ic, ot, cd, sp, cn, tr⟩)), .dat (.seq .ints inp)] (.dat (.seq .ints [(oB ⟨w, mem, inn, code⟩ (r0 inp) ⟨pc, rg, mm, sk, ic, ot, cd, sp, cn, tr⟩ : Int)])) := by
  have q := qdy w mem inn code (z1 ⟨w, mem, inn, code⟩ ⟨pc, rg, mm, sk, ic, ot, cd, sp, cn, tr⟩) inp hx.step tZ hi
  rwa [qhr hx (mB hi).2 hc hn] at q
theorem l_one (w mem inn : Int) (code : List V.Ins) (pc : Int) (rg mm : List V.Term) (sk : List Int) (ic : Int) (ot : List V.Term) (cd sp : Int) (cn : List V.Term) (tr : List Int) (inp : List Int) (hx : PX ⟨w, mem, inn, code⟩ ⟨pc, rg, mm, sk, ic, ot, cd, sp, cn, tr⟩) (hi : s8 ⟨w, mem, inn, code⟩ inp = true) (hc : d7 (r0 inp) ⟨pc, rg, mm, sk, ic, ot, cd, sp, cn, tr⟩ = true) (hn : (z1 ⟨w, mem, inn, code⟩ ⟨pc, rg, mm, sk, ic, ot, cd, sp, cn, tr⟩).length ≠ 0) : CallsV Tryz.prog 14 [.agg [.dat (.i w), .dat (.i mem), .dat (.i inn), .dat (.seq .inss code)], .dat (.seq .paths (z1 ⟨w, mem, inn, code⟩ ⟨pc, rg, mm, sk, ic, ot, cd, sp, cn, tr⟩)), .dat (.seq .ints inp)] (.tup [jG (bC ⟨w, mem, inn, code⟩ (r0 inp) ⟨pc, rg, mm, sk, ic, ot, cd, sp, cn, tr⟩), .dat (.bool true)]) := by
  refine oV Tryz.func14 ⟨?_⟩
  repeat' (first | ((with_reducible refine fun (K1 : KT) hK => ?_); refine z2 ⟨?_⟩) | ((with_reducible show K1 _ _); subst hK; conv => whnf) | refine st0 ⟨?_⟩ | ((with_reducible refine SplS.mk (fun h => ?_) (fun h => ?_)) <;> first | exact m4 | (subst h; conv => whnf) | (conv => whnf)) | refine s1 ⟨?_⟩ ⟨?_⟩ | refine vP (l_endsY (hx := by assumption) (hi := by assumption) (hc := by assumption) (hn := by assumption) ..) ⟨?_⟩ | (intro h; conv => whnf))
  all_goals repeat clear hK K1
  all_goals (have q := qD hx (mB hi).2 hc hn)
  all_goals first | exact True.intro | ((with_reducible show frzM _ _ _); first | exact frB rfl | exact fr10M rfl) | exact on_no asmR q.1 | (have q1 := q.1; omega) | skip
theorem law_ST (b : List Int) : CallsV Tryz.prog 3 [.dat (.seq .bytes b)] (.dat (.bool true)) := by
  refine oV Tryz.func3 ⟨?_⟩
  repeat' (first | ((with_reducible refine fun (K1 : KT) hK => ?_); refine z2 ⟨?_⟩) | ((with_reducible show K1 _ _); subst hK; conv => whnf) | (with_reducible exact rfl) | refine p8 ⟨?_⟩ | ((with_reducible show WEach _ _); refine zA rfl ?_ ?_; conv => whnf) | refine st0 ⟨?_⟩ | ((with_reducible refine SplS.mk (fun h => ?_) (fun h => ?_)) <;> first | exact s5 | (subst h; conv => whnf) | (conv => whnf)) | refine s1 ⟨?_⟩ ⟨?_⟩ | (refine l5 ({k : Nat // k <= (aD w inn).length}) (fun ⟨k, hk⟩ => j5 Tryz.f3.ntmps [(3, .ptr 3 0), (5, .ptr 5 0), (7, .dat (.seq .paths (z1 ⟨w, mem, inn, code⟩ ⟨(x7 ⟨w, mem, inn, code⟩ (g7 ⟨w, mem, inn, code⟩) (g8 b 60 0 12).toNat (o7 w b 62 inn.toNat)).pc, (x7 ⟨w, mem, inn, code⟩ (g7 ⟨w, mem, inn, code⟩) (g8 b 60 0 12).toNat (o7 w b 62 inn.toNat)).regs, (x7 ⟨w, mem, inn, code⟩ (g7 ⟨w, mem, inn, code⟩) (g8 b 60 0 12).toNat (o7 w b 62 inn.toNat)).mem, (x7 ⟨w, mem, inn, code⟩ (g7 ⟨w, mem, inn, code⟩) (g8 b 60 0 12).toNat (o7 w b 62 inn.toNat)).stack, (x7 ⟨w, mem, inn, code⟩ (g7 ⟨w, mem, inn, code⟩) (g8 b 60 0 12).toNat (o7 w b 62 inn.toNat)).inn, (x7 ⟨w, mem, inn, code⟩ (g7 ⟨w, mem, inn, code⟩) (g8 b 60 0 12).toNat (o7 w b 62 inn.toNat)).out, (x7 ⟨w, mem, inn, code⟩ (g7 ⟨w, mem, inn, code⟩) (g8 b 60 0 12).toNat (o7 w b 62 inn.toNat)).code, (x7 ⟨w, mem, inn, code⟩ (g7 ⟨w, mem, inn, code⟩) (g8 b 60 0 12).toNat (o7 w b 62 inn.toNat)).steps, (x7 ⟨w, mem, inn, code⟩ (g7 ⟨w, mem, inn, code⟩) (g8 b 60 0 12).toNat (o7 w b 62 inn.toNat)).cond, (x7 ⟨w, mem, inn, code⟩ (g7 ⟨w, mem, inn, code⟩) (g8 b 60 0 12).toNat (o7 w b 62 inn.toNat)).turns⟩))), (63, .dat (.seq .intss (aD w inn))), (64, .dat (.i (aD w inn).length)), (65, .dat (.i k))] [(3, .box [.dat (.i w), .dat (.i mem), .dat (.i inn), .dat (.seq .inss code)]), (5, .box [.dat (.i (x7 ⟨w, mem, inn, code⟩ (g7 ⟨w, mem, inn, code⟩) (g8 b 60 0 12).toNat (o7 w b 62 inn.toNat)).pc), .dat (.seq .terms (x7 ⟨w, mem, inn, code⟩ (g7 ⟨w, mem, inn, code⟩) (g8 b 60 0 12).toNat (o7 w b 62 inn.toNat)).regs), .dat (.seq .terms (x7 ⟨w, mem, inn, code⟩ (g7 ⟨w, mem, inn, code⟩) (g8 b 60 0 12).toNat (o7 w b 62 inn.toNat)).mem), .dat (.seq .ints (x7 ⟨w, mem, inn, code⟩ (g7 ⟨w, mem, inn, code⟩) (g8 b 60 0 12).toNat (o7 w b 62 inn.toNat)).stack), .dat (.i (x7 ⟨w, mem, inn, code⟩ (g7 ⟨w, mem, inn, code⟩) (g8 b 60 0 12).toNat (o7 w b 62 inn.toNat)).inn), .dat (.seq .terms (x7 ⟨w, mem, inn, code⟩ (g7 ⟨w, mem, inn, code⟩) (g8 b 60 0 12).toNat (o7 w b 62 inn.toNat)).out), .dat (.i (x7 ⟨w, mem, inn, code⟩ (g7 ⟨w, mem, inn, code⟩) (g8 b 60 0 12).toNat (o7 w b 62 inn.toNat)).code), .dat (.i (x7 ⟨w, mem, inn, code⟩ (g7 ⟨w, mem, inn, code⟩) (g8 b 60 0 12).toNat (o7 w b 62 inn.toNat)).steps), .dat (.seq .terms (x7 ⟨w, mem, inn, code⟩ (g7 ⟨w, mem, inn, code⟩) (g8 b 60 0 12).toNat (o7 w b 62 inn.toNat)).cond), .dat (.seq .ints (x7 ⟨w, mem, inn, code⟩ (g7 ⟨w, mem, inn, code⟩) (g8 b 60 0 12).toNat (o7 w b 62 inn.toNat)).turns)])]) (fun ⟨k, hk⟩ => (aD w inn).length - k) ⟨0, Nat.zero_le _⟩ (SubP.sub (σ := [(3, some 3), (5, some 5)]) ⟨⟨rfl, rfl, rfl⟩, ⟨rr, rr, o0 ?_, o0 ?_, o0 ?_, o0 ?_, trivial⟩, ⟨⟨j0 ?_, j0 ?_, j0 ?_, j0 ?_, trivial⟩, ⟨j0 ?_, j0 ?_, j0 ?_, j0 ?_, j0 ?_, j0 ?_, j0 ?_, j0 ?_, j0 ?_, j0 ?_, trivial⟩, trivial⟩⟩) (fun ⟨k, hk⟩ => ?_); rotate_right; conv => whnf) | (refine p5 (⟨k + 1, ?_⟩ : {k : Nat // k <= (aD w inn).length}) ?_ (SubP.sub (σ := [(3, some 3), (5, some 5)]) ⟨⟨rfl, rfl, rfl⟩, ⟨rr, rr, o0 ?_, o0 ?_, o0 ?_, o0 ?_, trivial⟩, ⟨⟨j0 ?_, j0 ?_, j0 ?_, j0 ?_, trivial⟩, ⟨j0 ?_, j0 ?_, j0 ?_, j0 ?_, j0 ?_, j0 ?_, j0 ?_, j0 ?_, j0 ?_, j0 ?_, trivial⟩, trivial⟩⟩)) | ((with_reducible refine fcI (g := 5) ?_); refine ⟨_, _, qm4 (hn := ?_) (hl := asmR) .., rfl, fun res B hRB => ?_⟩; rotate_right; obtain ⟨⟨w, mem, inn, code, rfl, hp⟩, rfl⟩ := hRB; conv => whnf) | refine vP (qhc (hn := ?_) (hl := by assumption) (h1 := ?_) ..) ⟨?_⟩ | refine vP (qiz (hi := ?_) (hf := ?_) (hf2 := ?_) ..) ⟨?_⟩ | refine vP (qm3 (hn := ?_) (h1 := ?_) (h2 := ?_) (h3 := ?_) (hl := ?_) ..) ⟨?_⟩ | refine vP (qlp (hx := ?_) ..) ⟨?_⟩ | refine vP (qit (hx := ?_) ..) ⟨?_⟩ | refine vP (qi6 (hp := ?_) ..) ⟨?_⟩ | refine vP (qi3 (hx := ?_) (hi := ?_) ..) ⟨?_⟩ | refine vP (qdy (hpx := ?_) (h2 := ?_) (hi := ?_) ..) ⟨?_⟩ | refine vP (l_one (hx := ?_) (hi := ?_) (hc := ?_) (hn := ?_) ..) ⟨?_⟩ | refine vP (qlu (hx := ?_) (hi := ?_) (hc := ?_) ..) ⟨?_⟩ | refine vE (qkk ..) ⟨?_⟩ | refine vE (qis (hM := ?_) (hi := ?_) ..) ⟨?_⟩ | (intro h; conv => whnf))
  all_goals repeat clear hK K1
  all_goals (try simp only [bQ] at *)
  all_goals first | (with_reducible assumption) | decide | exact qd4 b 62 hp | (have q := qah b 60 (lo := 0) (hi := 12) (by decide); omega) | (have q := jU hp; simp only at q; omega) | (have q := st_px (f := (g8 b 60 0 12).toNat) (qd4 b 62 hp); first | (with_reducible exact q) | exact q.step | exact q.step _ asmR | exact st_c asmR asmR | (have hk' : (k : Int) < (aD w inn).length := asmR; have hx := al_at (p := ⟨w, mem, inn, code⟩) hp hk'; first | (with_reducible exact hx) | exact hx | exact st_e1 q asmR asmR | exact st_e2 q asmR asmR | exact kK q asmR | exact vM q (mB hx).2 (kK q asmR) omG | exact (qD q (mB hx).2 (kK q asmR) omG).2.1 | exact st_m q hx asmR omG | exact st_no q hx asmR omG asmR (by assumption) | (have hn : ¬ ((z1 ⟨w, mem, inn, code⟩ (x7 ⟨w, mem, inn, code⟩ (g7 ⟨w, mem, inn, code⟩) (g8 b 60 0 12).toNat (o7 w b 62 inn.toNat))).length : Int) = 0 := asmR; have hn' : (z1 ⟨w, mem, inn, code⟩ (x7 ⟨w, mem, inn, code⟩ (g7 ⟨w, mem, inn, code⟩) (g8 b 60 0 12).toNat (o7 w b 62 inn.toNat))).length ≠ 0 := (fun e => hn (congrArg Nat.cast e)); first | exact hn' | exact vM q (mB hx).2 (kK q asmR) hn' | exact (qD q (mB hx).2 (kK q asmR) hn').2.1 | exact st_m q hx asmR hn' | exact st_no q hx asmR hn' asmR (by assumption)))) | (exfalso; have q := wZ ⟨w, mem, inn, code⟩ (x7 ⟨w, mem, inn, code⟩ (g7 ⟨w, mem, inn, code⟩) (g8 b 60 0 12).toNat (o7 w b 62 inn.toNat)); omega) | (exact Bool.noConfusion (show true = false by assumption)) | exact congrArg (Dat.int .i64) (wrap_succ asmR asmR).symm | exact rfl | skip
end Vg
