/- Paths: contracts of the program's functions up to a step. Condition: the path is one under way (PI), the instruction is the program's. -/
import Derived.Test.YtjlffejifadkiaaGreatDoorPathQ
namespace Vg
open Go Go.Proofs
set_option maxRecDepth 100000
set_option maxHeartbeats 40000000
theorem tK {B : List Blk} {L : List Nat} {y : V.Path} {pc ic cd sp : Int} {rg mm ot cn : List V.Term} {sk tr : List Int} (h : y = ⟨pc, rg, mm, sk, ic, ot, cd, sp, cn, tr⟩) :
    frzC B (.dat (.i y.pc)) (AV.numC L (.dat (.int .i64 pc))) ∧ iG B [.dat (.seq .terms y.regs), .dat (.seq .terms y.mem), .dat (.seq .ints y.stack), .dat (.i y.inn), .dat (.seq .terms y.out), .dat (.i y.code), .dat (.i y.steps), .dat (.seq .terms y.cond), .dat (.seq .ints y.turns)]
      [AV.numC L (.dat (.seq .terms rg)), AV.numC L (.dat (.seq .terms mm)), AV.numC L (.dat (.seq .ints sk)), AV.numC L (.dat (.int .i64 ic)), AV.numC L (.dat (.seq .terms ot)), AV.numC L (.dat (.int .i64 cd)), AV.numC L (.dat (.int .i64 sp)), AV.numC L (.dat (.seq .terms cn)), AV.numC L (.dat (.seq .ints tr))] := by
  subst h
  exact ⟨rfl, rfl, rfl, rfl, rfl, rfl, rfl, rfl, rfl, rfl, True.intro⟩
theorem fr10M {B : List Blk} {L : List Nat} {y : V.Path} {pc ic cd sp : Int} {rg mm ot cn : List V.Term} {sk tr : List Int} (h : y = ⟨pc, rg, mm, sk, ic, ot, cd, sp, cn, tr⟩) :
    frzM B (datPt y) (AV.numM L (.agg [.dat (.int .i64 pc), .dat (.seq .terms rg), .dat (.seq .terms mm), .dat (.seq .ints sk), .dat (.int .i64 ic), .dat (.seq .terms ot), .dat (.int .i64 cd), .dat (.int .i64 sp), .dat (.seq .terms cn), .dat (.seq .ints tr)])) := by
  subst h
  exact ⟨rfl, rfl, rfl, rfl, rfl, rfl, rfl, rfl, rfl, rfl, True.intro⟩
theorem frB {B : List Blk} {L : List Nat} {t u : Bool} (h : t = u) : frzM B (.dat (.bool t)) (AV.numM L (.dat (.bool u))) := by rw [h]; exact rfl
section
variable {p : V.Prog} {s : V.Path} {op a b c : Int}
theorem oN {op w n : Int} (h : d5 ⟨op, a, b, c⟩ w n = true) (ho : op = 3) : 3 ≤ c ∧ c ≤ 16 := by
  subst ho
  simp [d5, b9, inP] at h
  omega
theorem qY (h1 : ¬ op = 10) (h2 : ¬ op = 13) (h3 : ¬ op = 3) : g9 s ⟨op, a, b, c⟩ = { s with code := 5 } := by
  unfold g9
  rw [if_neg h1, if_neg h2, if_neg h3]
theorem qdi (h1 : ¬ c = 6) (h2 : ¬ c = 7) : n5 ⟨3, a, b, c⟩ = false := decide_eq_false (by show ¬ (3 = 10 ∨ 3 = 13 ∨ ((3 : Int) = 3 ∧ (c = 6 ∨ c = 7)) ∨ 3 = 7 ∨ 3 = 8); omega)
theorem qdl (h1 : ¬ c = 6) (h2 : ¬ c = 7) : j2 p s ⟨3, a, b, c⟩ = (zT, true) := by
  show (if (c = 6 ∨ c = 7) then _ else _) = _
  rw [if_neg omG]
theorem qdh (h1 : ¬ op = 10) (h2 : ¬ op = 13) (h3 : ¬ op = 3) (h7 : ¬ op = 7) (h8 : ¬ op = 8) : n5 ⟨op, a, b, c⟩ = false := decide_eq_false (by show ¬ (op = 10 ∨ op = 13 ∨ (op = 3 ∧ (c = 6 ∨ c = 7)) ∨ op = 7 ∨ op = 8); omega)
theorem qdj (h1 : ¬ op = 10) (h2 : ¬ op = 13) (h3 : ¬ op = 3) (h7 : ¬ op = 7) (h8 : ¬ op = 8) : j2 p s ⟨op, a, b, c⟩ = (zT, true) := by
  unfold j2
  rw [if_neg (by show ¬ (op = 10 ∨ op = 13); omega), if_neg h3, if_neg h7, if_neg h8]
theorem wO {x : V.Term} (h : (s1 15 1 0 [x, cT p.w p.mem]).2 = false) : n9 p x = (zT, false) := by
  unfold n9 yD
  rw [if_neg (by rw [h]; decide)]
theorem vO {x : V.Term} (h : (s1 15 1 0 [x, cT p.w p.mem]).2 = true) : n9 p x = s1 1 1 0 [(s1 15 1 0 [x, cT p.w p.mem]).1] := by
  unfold n9 yD
  rw [if_pos h]
theorem qc4 {k : Int} {x u v : V.Term} (h : (s1 14 1 0 [cT p.w k, x]).2 = false) : w6 p k x u v = (zT, false) := by
  unfold w6
  rw [if_neg (by rw [h]; decide)]
theorem cell_y {k : Int} {x u v : V.Term} (h : (s1 14 1 0 [cT p.w k, x]).2 = true) : w6 p k x u v = s1 17 p.w 0 [(s1 14 1 0 [cT p.w k, x]).1, u, v] := by
  unfold w6
  rw [if_pos h]
theorem xQ {u v : V.Term} (h : (s1 op (j8 op p.w) 0 [u, v]).2 = false) : d9 p op u v = s1 op (j8 op p.w) 0 [u, v] := if_pos (.inl h)
theorem wQ {u v : V.Term} (h : op < 14) : d9 p op u v = s1 op (j8 op p.w) 0 [u, v] := if_pos (.inr h)
theorem dY {u v : V.Term} (h : (s1 op (j8 op p.w) 0 [u, v]).2 = true) (h2 : ¬ op < 14) : d9 p op u v = s1 20 p.w 0 [(s1 op (j8 op p.w) 0 [u, v]).1] := if_neg (fun q => q.elim (fun e => by rw [h] at e; cases e) h2)
end
theorem qa1 (pc : Int) (rg mm : List V.Term) (sk : List Int) (ic : Int) (ot : List V.Term) (cd sp : Int) (cn : List V.Term) (tr : List Int) (op a b c : Int) : CallsV Tryz.prog 133 [.agg [.dat (.i pc), .dat (.seq .terms rg), .dat (.seq .terms mm), .dat (.seq .ints sk), .dat (.i ic), .dat (.seq .terms ot), .dat (.i cd), .dat (.i sp), .dat (.seq .terms cn), .dat (.seq .ints tr)], .agg [.dat (.i op), .dat (.i a), .dat (.i b), .dat (.i c)]] (datPt (g9 ⟨pc, rg, mm, sk, ic, ot, cd, sp, cn, tr⟩ ⟨op, a, b, c⟩)) := by
  refine oV Tryz.func133 ⟨?_⟩
  repeat' (first | ((with_reducible refine fun (K1 : KT) hK => ?_); refine z1 ⟨?_⟩) | ((with_reducible show K1 _ _); subst hK; conv => whnf) | (with_reducible refine j5 ?_) | (with_reducible exact rfl) | refine st0 ⟨?_⟩ | ((with_reducible refine SplS.mk (fun h => ?_) (fun h => ?_)) <;> first | exact r0 | (subst h; conv => whnf) | (conv => whnf)) | (intro h; conv => whnf))
  all_goals repeat clear hK K1
  all_goals first | exact ⟨tK rfl⟩ | exact ⟨tK (qY asmR asmR asmR)⟩ | skip
theorem i_stuck (w mem inn : Int) (code : List V.Ins) (pc : Int) (rg mm : List V.Term) (sk : List Int) (ic : Int) (ot : List V.Term) (cd sp : Int) (cn : List V.Term) (tr : List Int) (op a b c : Int) : CallsV Tryz.prog 104 [.agg [.dat (.i w), .dat (.i mem), .dat (.i inn), .dat (.seq .inss code)], .agg [.dat (.i pc), .dat (.seq .terms rg), .dat (.seq .terms mm), .dat (.seq .ints sk), .dat (.i ic), .dat (.seq .terms ot), .dat (.i cd), .dat (.i sp), .dat (.seq .terms cn), .dat (.seq .ints tr)], .agg [.dat (.i op), .dat (.i a), .dat (.i b), .dat (.i c)]] (.dat (.i (t4 ⟨w, mem, inn, code⟩ ⟨pc, rg, mm, sk, ic, ot, cd, sp, cn, tr⟩ ⟨op, a, b, c⟩))) := by
  refine oV Tryz.func104 ⟨?_⟩
  repeat' (first | ((with_reducible refine fun (K1 : KT) hK => ?_); refine z1 ⟨?_⟩) | ((with_reducible show K1 _ _); subst hK; conv => whnf) | (with_reducible exact rfl) | refine st0 ⟨?_⟩ | ((with_reducible refine SplS.mk (fun h => ?_) (fun h => ?_)) <;> first | exact r0 | (subst h; conv => whnf) | (conv => whnf)) | (intro h; conv => whnf))
  all_goals repeat clear hK K1
  all_goals first | (refine eE (Eq.symm ?_); unfold t4; (repeat (first | rw [if_pos (by dsimp only; omega)] | rw [if_neg (by dsimp only; omega)])); done) | skip
theorem qa8 (op w : Int) (ho : 3 ≤ op ∧ op ≤ 16) (hw : inP w 1 16 = true) : CallsV Tryz.prog 179 [.dat (.i op), .dat (.i w)] (.dat (.i (j8 op w))) := by
  refine oV Tryz.func179 ⟨?_⟩
  repeat' (first | ((with_reducible refine fun (K1 : KT) hK => ?_); refine z1 ⟨?_⟩) | ((with_reducible show K1 _ _); subst hK; conv => whnf) | (with_reducible exact rfl) | refine st0 ⟨?_⟩ | ((with_reducible refine SplS.mk (fun h => ?_) (fun h => ?_)) <;> first | exact r0 | (subst h; conv => whnf) | (conv => whnf)) | ((with_reducible first | refine n0 (g := 128) ?_ | show Exists _); refine ⟨_, xI .., rfl, ?_⟩; rotate_right; conv => whnf) | (intro h; conv => whnf))
  all_goals repeat clear hK K1
  all_goals first | (refine eE (Eq.symm ?_); unfold j8; (first | rw [if_pos omG] | rw [if_neg omG]); done) | (exfalso; omega) | (exact absurd (hw.symm.trans asmR) (by decide)) | skip
theorem qax (w mem inn : Int) (code : List V.Ins) (pc : Int) (rg mm : List V.Term) (sk : List Int) (ic : Int) (ot : List V.Term) (cd sp : Int) (cn : List V.Term) (tr : List Int) (op a b c : Int) (hp : y4 ⟨w, mem, inn, code⟩ = true) (hr : rg.length = 4) (hi : d5 ⟨op, a, b, c⟩ w code.length = true) : CallsV Tryz.prog 131 [.agg [.dat (.i w), .dat (.i mem), .dat (.i inn), .dat (.seq .inss code)], .agg [.dat (.i pc), .dat (.seq .terms rg), .dat (.seq .terms mm), .dat (.seq .ints sk), .dat (.i ic), .dat (.seq .terms ot), .dat (.i cd), .dat (.i sp), .dat (.seq .terms cn), .dat (.seq .ints tr)], .agg [.dat (.i op), .dat (.i a), .dat (.i b), .dat (.i c)]] (.tup [b4 (j2 ⟨w, mem, inn, code⟩ ⟨pc, rg, mm, sk, ic, ot, cd, sp, cn, tr⟩ ⟨op, a, b, c⟩).1, .dat (.bool (n5 ⟨op, a, b, c⟩)), .dat (.bool (j2 ⟨w, mem, inn, code⟩ ⟨pc, rg, mm, sk, ic, ot, cd, sp, cn, tr⟩ ⟨op, a, b, c⟩).2)]) := by
  refine oV Tryz.func131 ⟨?_⟩
  repeat' (first | ((with_reducible refine fun (K1 : KT) hK => ?_); refine z1 ⟨?_⟩) | ((with_reducible show K1 _ _); subst hK; conv => whnf) | (with_reducible exact rfl) | refine r5 ⟨?_⟩ | ((with_reducible show WEach _ _); refine x6 rfl ?_ ?_; conv => whnf) | refine st0 ⟨?_⟩ | ((with_reducible refine SplS.mk (fun h => ?_) (fun h => ?_)) <;> first | exact r0 | (subst h; conv => whnf) | (conv => whnf)) | refine f1 ⟨?_⟩ ⟨?_⟩ | ((with_reducible first | refine n0 (g := 103) ?_ | show Exists _); refine ⟨_, i_ConstTerm (h := ?_) .., rfl, ?_⟩; rotate_right; conv => whnf) | ((with_reducible first | refine n0 (g := 136) ?_ | show Exists _); refine ⟨_, aE .., rfl, ?_⟩; rotate_right; conv => whnf) | ((with_reducible refine t0 (g := 103) ?_); (conv => whnf); refine ⟨_, _, i_ConstTerm (h := ?_) .., rfl, zV ?_⟩; rotate_right; conv => whnf) | ((with_reducible refine t0 (g := 136) ?_); (conv => whnf); refine ⟨_, _, aE .., rfl, zV ?_⟩; rotate_right; conv => whnf) | (intro h; conv => whnf))
  all_goals repeat clear hK K1
  all_goals first | exact True.intro | ((with_reducible show (_ : Int) ≤ _); first | (exact (m9 hi omG).1) | (exact (r9 hi omG).1) | omega) | ((with_reducible show (_ : Int) < _); first | (have q := m9 hi omG; omega) | (have q := r9 hi omG; omega) | omega) | ((with_reducible show wordP _ _ = true); first | exact zero_word (progP_w hp) | exact (g6 hp).2.2.1) | ((try simp only [V.Term.eta] at *); first | exact fr5M ((congrArg Prod.fst (vO (p := ⟨w, mem, inn, code⟩) asmR)).trans (V.Term.eta _).symm) | exact frB (congrArg Prod.snd (vO (p := ⟨w, mem, inn, code⟩) asmR)) | exact fr5Mn (congrArg Prod.fst (wO (p := ⟨w, mem, inn, code⟩) asmR)) | exact frB (congrArg Prod.snd (wO (p := ⟨w, mem, inn, code⟩) asmR)) | exact fr5Mn (congrArg Prod.fst (qdl asmR asmR)) | exact frB (congrArg Prod.snd (qdl asmR asmR)) | exact frB (qdi asmR asmR) | exact fr5Mn (congrArg Prod.fst (qdj asmR asmR asmR asmR asmR)) | exact frB (congrArg Prod.snd (qdj asmR asmR asmR asmR asmR)) | exact frB (qdh asmR asmR asmR asmR asmR) | exact fr5M (V.Term.eta _).symm | exact frB rfl) | skip
theorem qa5 (w mem inn : Int) (code : List V.Ins) (k : Int) (xo xw xn : Int) (xm : ByteArray) (xk : List V.Term) (uo uw un : Int) (um : ByteArray) (uk : List V.Term) (vo vw vn : Int) (vm : ByteArray) (vk : List V.Term) (hk : wordP w k = true) : CallsV Tryz.prog 181 [.agg [.dat (.i w), .dat (.i mem), .dat (.i inn), .dat (.seq .inss code)], .dat (.i k), .agg [.dat (.i xo), .dat (.i xw), .dat (.i xn), .dat (.str xm), .dat (.seq .terms xk)], .agg [.dat (.i uo), .dat (.i uw), .dat (.i un), .dat (.str um), .dat (.seq .terms uk)], .agg [.dat (.i vo), .dat (.i vw), .dat (.i vn), .dat (.str vm), .dat (.seq .terms vk)]] (.tup [b4 (w6 ⟨w, mem, inn, code⟩ k ⟨xo, xw, xn, xm, xk⟩ ⟨uo, uw, un, um, uk⟩ ⟨vo, vw, vn, vm, vk⟩).1, .dat (.bool (w6 ⟨w, mem, inn, code⟩ k ⟨xo, xw, xn, xm, xk⟩ ⟨uo, uw, un, um, uk⟩ ⟨vo, vw, vn, vm, vk⟩).2)]) := by
  refine oV Tryz.func181 ⟨?_⟩
  repeat' (first | ((with_reducible refine fun (K1 : KT) hK => ?_); refine z1 ⟨?_⟩) | ((with_reducible show K1 _ _); subst hK; conv => whnf) | (with_reducible exact rfl) | refine r5 ⟨?_⟩ | ((with_reducible show WEach _ _); refine x6 rfl ?_ ?_; conv => whnf) | refine st0 ⟨?_⟩ | ((with_reducible refine SplS.mk (fun h => ?_) (fun h => ?_)) <;> first | exact r0 | (subst h; conv => whnf) | (conv => whnf)) | refine f1 ⟨?_⟩ ⟨?_⟩ | ((with_reducible first | refine n0 (g := 136) ?_ | show Exists _); refine ⟨_, aE .., rfl, ?_⟩; rotate_right; conv => whnf) | ((with_reducible first | refine n0 (g := 103) ?_ | show Exists _); refine ⟨_, i_ConstTerm (h := ?_) .., rfl, ?_⟩; rotate_right; conv => whnf) | ((with_reducible refine t0 (g := 136) ?_); (conv => whnf); refine ⟨_, _, aE .., rfl, zV ?_⟩; rotate_right; conv => whnf) | ((with_reducible refine t0 (g := 103) ?_); (conv => whnf); refine ⟨_, _, i_ConstTerm (h := ?_) .., rfl, zV ?_⟩; rotate_right; conv => whnf) | (intro h; conv => whnf))
  all_goals repeat clear hK K1
  all_goals first | exact True.intro | exact hk | ((try simp only [V.Term.eta] at *); first | exact fr5M ((congrArg Prod.fst (cell_y (p := ⟨w, mem, inn, code⟩) asmR)).trans (V.Term.eta _).symm) | exact frB (congrArg Prod.snd (cell_y (p := ⟨w, mem, inn, code⟩) asmR)) | exact fr5Mn (congrArg Prod.fst (qc4 (p := ⟨w, mem, inn, code⟩) asmR)) | exact frB (congrArg Prod.snd (qc4 (p := ⟨w, mem, inn, code⟩) asmR))) | skip
theorem qaz (w mem inn : Int) (code : List V.Ins) (op : Int) (uo uw un : Int) (um : ByteArray) (uk : List V.Term) (vo vw vn : Int) (vm : ByteArray) (vk : List V.Term) (hp : y4 ⟨w, mem, inn, code⟩ = true) (ho : 3 ≤ op ∧ op ≤ 16) : CallsV Tryz.prog 153 [.agg [.dat (.i w), .dat (.i mem), .dat (.i inn), .dat (.seq .inss code)], .dat (.i op), .agg [.dat (.i uo), .dat (.i uw), .dat (.i un), .dat (.str um), .dat (.seq .terms uk)], .agg [.dat (.i vo), .dat (.i vw), .dat (.i vn), .dat (.str vm), .dat (.seq .terms vk)]] (.tup [b4 (d9 ⟨w, mem, inn, code⟩ op ⟨uo, uw, un, um, uk⟩ ⟨vo, vw, vn, vm, vk⟩).1, .dat (.bool (d9 ⟨w, mem, inn, code⟩ op ⟨uo, uw, un, um, uk⟩ ⟨vo, vw, vn, vm, vk⟩).2)]) := by
  refine oV Tryz.func153 ⟨?_⟩
  repeat' (first | ((with_reducible refine fun (K1 : KT) hK => ?_); refine z1 ⟨?_⟩) | ((with_reducible show K1 _ _); subst hK; conv => whnf) | (with_reducible exact rfl) | refine r5 ⟨?_⟩ | ((with_reducible show WEach _ _); refine x6 rfl ?_ ?_; conv => whnf) | refine st0 ⟨?_⟩ | ((with_reducible refine SplS.mk (fun h => ?_) (fun h => ?_)) <;> first | exact r0 | (subst h; conv => whnf) | (conv => whnf)) | refine f1 ⟨?_⟩ ⟨?_⟩ | ((with_reducible first | refine n0 (g := 136) ?_ | show Exists _); refine ⟨_, aE .., rfl, ?_⟩; rotate_right; conv => whnf) | ((with_reducible first | refine n0 (g := 179) ?_ | show Exists _); refine ⟨_, qa8 (ho := ?_) (hw := ?_) .., rfl, ?_⟩; rotate_right; conv => whnf) | ((with_reducible refine t0 (g := 136) ?_); (conv => whnf); refine ⟨_, _, aE .., rfl, zV ?_⟩; rotate_right; conv => whnf) | ((with_reducible refine t0 (g := 179) ?_); (conv => whnf); refine ⟨_, _, qa8 (ho := ?_) (hw := ?_) .., rfl, zV ?_⟩; rotate_right; conv => whnf) | (intro h; conv => whnf))
  all_goals repeat clear hK K1
  all_goals first | exact True.intro | exact progP_w hp | ((with_reducible show (_ : Int) ≤ _); omega) | ((try simp only [V.Term.eta] at *); first | exact fr5M ((congrArg Prod.fst (dY (p := ⟨w, mem, inn, code⟩) asmR asmR)).trans (V.Term.eta _).symm) | exact frB (congrArg Prod.snd (dY (p := ⟨w, mem, inn, code⟩) asmR asmR)) | exact fr5M ((congrArg Prod.fst (xQ (p := ⟨w, mem, inn, code⟩) asmR)).trans (V.Term.eta _).symm) | exact frB ((congrArg Prod.snd (xQ (p := ⟨w, mem, inn, code⟩) asmR)).trans asmR) | exact frB (congrArg Prod.snd (xQ (p := ⟨w, mem, inn, code⟩) asmR)) | exact fr5M ((congrArg Prod.fst (wQ (p := ⟨w, mem, inn, code⟩) asmR)).trans (V.Term.eta _).symm) | exact frB ((congrArg Prod.snd (wQ (p := ⟨w, mem, inn, code⟩) asmR)).trans asmR) | exact frB (congrArg Prod.snd (wQ (p := ⟨w, mem, inn, code⟩) asmR))) | skip
structure LdX (p : V.Prog) (x : V.Term) : Prop where
  h : x.op = 0 → 0 ≤ x.n ∧ x.n < p.mem
structure LdI (p : V.Prog) (mm : List V.Term) (x : V.Term) (j : Nat) : Prop where
  jl : (j : Int) ≤ p.mem - 1
  ok : (t5 p mm x j).2 = true
theorem nI {p : V.Prog} {k : Int} (h : y4 p = true) (h0 : 0 ≤ k) (h1 : k < p.mem) : wordP p.w k = true := by
  have h2 := (g6 h).2.2.1
  obtain ⟨h3, h4, h5⟩ := k5 h2
  exact xA h3 h0 omG
theorem load_n {p : V.Prog} {mm : List V.Term} {x : V.Term} {j : Nat} (ok : (t5 p mm x j).2 = true) : t5 p mm x (j + 1) = w6 p (p.mem - 2 - j) x (kAt mm (p.mem.toNat - 2 - j)) (t5 p mm x j).1 := by
  rw [t5, if_pos ok]
theorem kZ {p : V.Prog} {mm : List V.Term} {x : V.Term} : ∀ {j m : Nat}, (t5 p mm x j).2 = false → j ≤ m → (t5 p mm x m).2 = false
  | j, 0, h, hm => by obtain rfl : j = 0 := by omega
                      exact h
  | j, m + 1, h, hm => by
    by_cases e : j = m + 1
    · subst e; exact h
    · have := kZ (m := m) h omG
      rw [t5, if_neg (by rw [this]; decide)]
theorem qgs {p : V.Prog} {mm : List V.Term} {x : V.Term} {j m : Nat} (h : (t5 p mm x j).2 = false) (hj : 0 < j) (hm : j ≤ m) : t5 p mm x m = (zT, false) := by
  cases m with
  | zero => omega
  | succ m =>
    rw [t5]
    by_cases c : (t5 p mm x m).2 = true
    · have e : j = m + 1 := by
        by_cases q : j ≤ m
        · rw [kZ h q] at c; cases c
        · omega
      subst e
      rw [if_pos c]
      rw [t5, if_pos c] at h
      unfold w6 at h ⊢
      by_cases z : (s1 14 1 0 [cT p.w (p.mem - 2 - m), x]).2 = true
      · rw [if_pos z] at h ⊢
        unfold s1 at h ⊢
        by_cases y : z6 (oT 17 p.w 0 [(if z6 (oT 14 1 0 [cT p.w (p.mem - 2 - ↑m), x]) = true then (u2 (oT 14 1 0 [cT p.w (p.mem - 2 - ↑m), x]), true) else (zT, false)).1, kAt mm (p.mem.toNat - 2 - m), (t5 p mm x m).1]) = true
        · rw [if_pos y] at h; cases h
        · rw [if_neg y]
      · rw [if_neg z]
    · rw [if_neg c]
section
variable {p : V.Prog} {mm : List V.Term} {x : V.Term} {j : Nat}
theorem lH (hj : LdI p mm x j) : t5 p mm x (j + 1) = w6 p (p.mem - 2 - j) x (mm.getD (p.mem - 2 - j).toNat K.terms.dflt) (t5 p mm x j).1 := by
  rw [load_n hj.ok, show (p.mem - 2 - (j : Int)).toNat = p.mem.toNat - 2 - j by omega]
theorem ld_ok (hj : LdI p mm x j) (h0 : p.mem - 2 - j ≥ 0) (h : (w6 p (p.mem - 2 - j) x (mm.getD (p.mem - 2 - j).toNat K.terms.dflt) (t5 p mm x j).1).2 = true) : LdI p mm x (j + 1) :=
  ⟨by omega, by rw [lH hj]; exact h⟩
theorem sZ (hx : ¬ x.op = 0) (hj : LdI p mm x j) (h0 : p.mem - 2 - j ≥ 0) (h : (w6 p (p.mem - 2 - j) x (mm.getD (p.mem - 2 - j).toNat K.terms.dflt) (t5 p mm x j).1).2 = false) : iC p mm x = (zT, false) := by
  rw [← lH hj] at h
  unfold iC
  rw [if_neg hx]
  exact qgs h omG omG
theorem rZ (hx : ¬ x.op = 0) (hj : LdI p mm x j) (h0 : ¬ p.mem - 2 - j ≥ 0) : iC p mm x = ((t5 p mm x j).1, true) := by
  have := hj.jl
  unfold iC
  rw [if_neg hx, show p.mem.toNat - 1 = j by omega, ← hj.ok]
theorem ld_0 (h : y4 p = true) : LdI p mm x 0 := ⟨by have := g6 h; omega, rfl⟩
theorem uI (h : y4 p = true) : (t5 p mm x 0).1 = mm.getD (IntKind.i64.wrap (p.mem - 1)).toNat K.terms.dflt := by
  have := g6 h
  rw [wrap_id omG omG, show (p.mem - 1).toNat = p.mem.toNat - 1 by omega]
  rfl
end
theorem qa2 (w mem inn : Int) (code : List V.Ins) (pc : Int) (rg mm : List V.Term) (sk : List Int) (ic : Int) (ot : List V.Term) (cd sp : Int) (cn : List V.Term) (tr : List Int) (xo xw xn : Int) (xm : ByteArray) (xk : List V.Term) (hp : y4 ⟨w, mem, inn, code⟩ = true) (hm : (mm.length : Int) = mem) (hx : LdX ⟨w, mem, inn, code⟩ ⟨xo, xw, xn, xm, xk⟩) : CallsV Tryz.prog 155 [.agg [.dat (.i w), .dat (.i mem), .dat (.i inn), .dat (.seq .inss code)], .agg [.dat (.i pc), .dat (.seq .terms rg), .dat (.seq .terms mm), .dat (.seq .ints sk), .dat (.i ic), .dat (.seq .terms ot), .dat (.i cd), .dat (.i sp), .dat (.seq .terms cn), .dat (.seq .ints tr)], .agg [.dat (.i xo), .dat (.i xw), .dat (.i xn), .dat (.str xm), .dat (.seq .terms xk)]] (.tup [b4 (iC ⟨w, mem, inn, code⟩ mm ⟨xo, xw, xn, xm, xk⟩).1, .dat (.bool (iC ⟨w, mem, inn, code⟩ mm ⟨xo, xw, xn, xm, xk⟩).2)]) := by
  refine oV Tryz.func155 ⟨?_⟩
  repeat' (first | ((with_reducible refine fun (K1 : KT) hK => ?_); refine z1 ⟨?_⟩) | ((with_reducible show K1 _ _); subst hK; conv => whnf) | (with_reducible exact rfl) | refine r5 ⟨?_⟩ | ((with_reducible show WEach _ _); refine x6 rfl ?_ ?_; conv => whnf) | refine st0 ⟨?_⟩ | ((with_reducible refine SplS.mk (fun h => ?_) (fun h => ?_)) <;> first | exact r0 | (subst h; conv => whnf) | (conv => whnf)) | refine f1 ⟨?_⟩ ⟨?_⟩ | (refine Exists.intro ({j : Nat // LdI ⟨w, mem, inn, code⟩ mm ⟨xo, xw, xn, xm, xk⟩ j}) (Exists.intro (fun ⟨j, hj⟩ => r4 Tryz.f155.ntmps [(3, .ptr 3 0), (4, .ptr 4 0), (5, .ptr 5 0), (6, .ptr 6 0), (8, .ptr 8 0), (9, .dat (.i (mem - 2 - j)))] [(3, .box [.dat (.i w), .dat (.i mem), .dat (.i inn), .dat (.seq .inss code)]), (4, .box [.dat (.i pc), .dat (.seq .terms rg), .dat (.seq .terms mm), .dat (.seq .ints sk), .dat (.i ic), .dat (.seq .terms ot), .dat (.i cd), .dat (.i sp), .dat (.seq .terms cn), .dat (.seq .ints tr)]), (5, .box [.dat (.i xo), .dat (.i xw), .dat (.i xn), .dat (.str xm), .dat (.seq .terms xk)]), (6, .box [.dat (.i 0), .dat (.i 0), .dat (.i 0), .dat (.str ByteArray.empty), .nils]), (8, .box [.dat (.i (t5 ⟨w, mem, inn, code⟩ mm ⟨xo, xw, xn, xm, xk⟩ j).1.op), .dat (.i (t5 ⟨w, mem, inn, code⟩ mm ⟨xo, xw, xn, xm, xk⟩ j).1.w), .dat (.i (t5 ⟨w, mem, inn, code⟩ mm ⟨xo, xw, xn, xm, xk⟩ j).1.n), .dat (.str (t5 ⟨w, mem, inn, code⟩ mm ⟨xo, xw, xn, xm, xk⟩ j).1.name), .dat (.seq .terms (t5 ⟨w, mem, inn, code⟩ mm ⟨xo, xw, xn, xm, xk⟩ j).1.kids)])]) (Exists.intro (fun ⟨j, hj⟩ => mem.toNat - j) (Exists.intro ⟨0, ?_⟩ (And.intro (SubP.sub (σ := [(3, some 3), (4, some 4), (5, some 5), (6, some 6), (8, some 8)]) ⟨⟨rfl, rfl, rfl⟩, ⟨⟨rfl, rfl⟩, ⟨rfl, rfl⟩, ⟨rfl, rfl⟩, ⟨rfl, rfl⟩, ⟨rfl, rfl⟩, o0 ?_, trivial⟩, ⟨⟨j0 ?_, j0 ?_, j0 ?_, j0 ?_, trivial⟩, ⟨j0 ?_, j0 ?_, j0 ?_, j0 ?_, j0 ?_, j0 ?_, j0 ?_, j0 ?_, j0 ?_, j0 ?_, trivial⟩, ⟨j0 ?_, j0 ?_, j0 ?_, j0 ?_, j0 ?_, trivial⟩, ⟨j0 ?_, j0 ?_, j0 ?_, j0 ?_, trivial, trivial⟩, ⟨j0 ?_, j0 ?_, j0 ?_, j0 ?_, j0 ?_, trivial⟩, trivial⟩⟩) (fun ⟨j, hj⟩ => ?_))))); rotate_right; conv => whnf) | (refine Exists.intro (⟨j + 1, ?_⟩ : {j : Nat // LdI ⟨w, mem, inn, code⟩ mm ⟨xo, xw, xn, xm, xk⟩ j}) (And.intro ?_ (SubP.sub (σ := [(3, some 3), (4, some 4), (5, some 5), (6, some 6), (8, some 8)]) ⟨⟨rfl, rfl, rfl⟩, ⟨⟨rfl, rfl⟩, ⟨rfl, rfl⟩, ⟨rfl, rfl⟩, ⟨rfl, rfl⟩, ⟨rfl, rfl⟩, o0 ?_, trivial⟩, ⟨⟨j0 ?_, j0 ?_, j0 ?_, j0 ?_, trivial⟩, ⟨j0 ?_, j0 ?_, j0 ?_, j0 ?_, j0 ?_, j0 ?_, j0 ?_, j0 ?_, j0 ?_, j0 ?_, trivial⟩, ⟨j0 ?_, j0 ?_, j0 ?_, j0 ?_, j0 ?_, trivial⟩, ⟨j0 ?_, j0 ?_, j0 ?_, j0 ?_, trivial, trivial⟩, ⟨j0 ?_, j0 ?_, j0 ?_, j0 ?_, j0 ?_, trivial⟩, trivial⟩⟩))) | ((with_reducible first | refine n0 (g := 135) ?_ | show Exists _); refine ⟨_, t6 .., rfl, ?_⟩; rotate_right; conv => whnf) | ((with_reducible first | refine n0 (g := 181) ?_ | show Exists _); refine ⟨_, qa5 (hk := ?_) .., rfl, ?_⟩; rotate_right; conv => whnf) | (intro h; conv => whnf))
  all_goals repeat clear hK K1
  all_goals (have hM := g6 hp; dsimp only at hM; try simp only [V.Term.eta] at *)
  all_goals first | exact True.intro | (with_reducible exact ld_0 hp) | (with_reducible exact ld_ok hj asmR asmR) | ((with_reducible show wordP _ _ = true); exact nI hp omG (by show _ < mem; omega)) | ((with_reducible show (_ : Nat) < _); (try dsimp only); omega) | (have q := hx.h rfl; dsimp only at q; omega) | ((with_reducible show (_ : Int) ≤ _); first | omega | (rw [wrap_id (n := mem - 1) omG omG]; omega)) | ((with_reducible show (_ : Int) < _); first | omega | (rw [wrap_id (n := mem - 1) omG omG]; omega)) | exact frB (congrArg Prod.snd (sZ (p := ⟨w, mem, inn, code⟩) (x := ⟨xo, xw, xn, xm, xk⟩) asmR hj asmR asmR)) | exact fr5Mn (congrArg Prod.fst (sZ (p := ⟨w, mem, inn, code⟩) (x := ⟨xo, xw, xn, xm, xk⟩) asmR hj asmR asmR)) | exact frB (congrArg Prod.snd (rZ (p := ⟨w, mem, inn, code⟩) (x := ⟨xo, xw, xn, xm, xk⟩) asmR hj asmR)) | exact fr5M ((congrArg Prod.fst (rZ (p := ⟨w, mem, inn, code⟩) (x := ⟨xo, xw, xn, xm, xk⟩) asmR hj asmR)).trans (V.Term.eta _).symm) | exact frB rfl | exact fr5M (V.Term.eta _).symm | (refine congrArg Dat.i ?_; rw [wrap_id omG omG]; omega) | exact congrArg (fun t => Dat.i (V.Term.op t)) (uI hp) | exact congrArg (fun t => Dat.i (V.Term.w t)) (uI hp) | exact congrArg (fun t => Dat.i (V.Term.n t)) (uI hp) | exact congrArg (fun t => Dat.str (V.Term.name t)) (uI hp) | exact congrArg (fun t => Dat.seq K.terms (V.Term.kids t)) (uI hp) | exact congrArg (fun t => Dat.i (V.Term.op (Prod.fst t))) (lH hj) | exact congrArg (fun t => Dat.i (V.Term.w (Prod.fst t))) (lH hj) | exact congrArg (fun t => Dat.i (V.Term.n (Prod.fst t))) (lH hj) | exact congrArg (fun t => Dat.str (V.Term.name (Prod.fst t))) (lH hj) | exact congrArg (fun t => Dat.seq K.terms (V.Term.kids (Prod.fst t))) (lH hj) | skip
structure StI (p : V.Prog) (mm : List V.Term) (x t : V.Term) (k : Nat) : Prop where
  kl : k ≤ mm.length
  ok : z8 p mm x t k = true
section
variable {p : V.Prog} {mm : List V.Term} {x t : V.Term} {k : Nat}
theorem cM : (kA p mm x t k).length = k := by simp [kA]
theorem st_ok (hk : StI p mm x t k) (h0 : (k : Int) < mm.length) (h : (w6 p k x t (mm.getD (k : Int).toNat K.terms.dflt)).2 = true) : StI p mm x t (k + 1) := by
  refine ⟨by omega, ?_⟩
  rw [z8, hk.ok, Bool.true_and]
  exact h
theorem eW : ∀ {k m : Nat}, z8 p mm x t k = false → k ≤ m → z8 p mm x t m = false
  | k, 0, h, hm => by obtain rfl : k = 0 := by omega
                      exact h
  | k, m + 1, h, hm => by
    by_cases e : k = m + 1
    · subst e; exact h
    · rw [z8, eW (m := m) h omG, Bool.false_and]
theorem pP (hx : ¬ x.op = 0) (hl : (mm.length : Int) = p.mem) (h0 : (k : Int) < mm.length) (h : (w6 p k x t (mm.getD (k : Int).toNat K.terms.dflt)).2 = false) : yA p mm x t = ([], false) := by
  have h2 : z8 p mm x t (k + 1) = false := by
    rw [z8, show (w6 p (k : Int) x t (kAt mm k)).2 = false from h, Bool.and_false]
  unfold yA
  rw [if_neg hx, eW h2 omG]
  rfl
theorem dW (hx : ¬ x.op = 0) (hl : (mm.length : Int) = p.mem) (hk : StI p mm x t k) (h0 : ¬ (k : Int) < mm.length) : yA p mm x t = (kA p mm x t k, true) := by
  have := hk.kl
  unfold yA
  rw [if_neg hx, show p.mem.toNat = k by omega, hk.ok]
  rfl
theorem cW (h0 : (k : Int) < mm.length) {y : V.Term} (h : y = (w6 p k x t (mm.getD (k : Int).toNat K.terms.dflt)).1) :
    (kA p mm x t k ++ List.replicate (mm.length - k) zT).set k y = kA p mm x t (k + 1) ++ List.replicate (mm.length - (k + 1)) zT := by
  have e : mm.length - k = (mm.length - (k + 1)) + 1 := by omega
  rw [List.set_append_right _ _ (by rw [cM]; exact Nat.le_refl _), cM, Nat.sub_self, e, List.replicate_succ, List.set_cons_zero]
  unfold kA
  rw [List.range_succ, List.map_append, List.append_assoc, h]
  rfl
end
theorem qau (w mem inn : Int) (code : List V.Ins) (pc : Int) (rg mm : List V.Term) (sk : List Int) (ic : Int) (ot : List V.Term) (cd sp : Int) (cn : List V.Term) (tr : List Int) (xo xw xn : Int) (xm : ByteArray) (xk : List V.Term) (uo uw un : Int) (um : ByteArray) (uk : List V.Term) (hp : y4 ⟨w, mem, inn, code⟩ = true) (hm : (mm.length : Int) = mem) (hx : LdX ⟨w, mem, inn, code⟩ ⟨xo, xw, xn, xm, xk⟩) : CallsV Tryz.prog 156 [.agg [.dat (.i w), .dat (.i mem), .dat (.i inn), .dat (.seq .inss code)], .agg [.dat (.i pc), .dat (.seq .terms rg), .dat (.seq .terms mm), .dat (.seq .ints sk), .dat (.i ic), .dat (.seq .terms ot), .dat (.i cd), .dat (.i sp), .dat (.seq .terms cn), .dat (.seq .ints tr)], .agg [.dat (.i xo), .dat (.i xw), .dat (.i xn), .dat (.str xm), .dat (.seq .terms xk)], .agg [.dat (.i uo), .dat (.i uw), .dat (.i un), .dat (.str um), .dat (.seq .terms uk)]] (.tup [.dat (.seq .terms (yA ⟨w, mem, inn, code⟩ mm ⟨xo, xw, xn, xm, xk⟩ ⟨uo, uw, un, um, uk⟩).1), .dat (.bool (yA ⟨w, mem, inn, code⟩ mm ⟨xo, xw, xn, xm, xk⟩ ⟨uo, uw, un, um, uk⟩).2)]) := by
  refine oV Tryz.func156 ⟨?_⟩
  repeat' (first | ((with_reducible refine fun (K1 : KT) hK => ?_); refine z1 ⟨?_⟩) | ((with_reducible show K1 _ _); subst hK; conv => whnf) | (with_reducible exact rfl) | refine r5 ⟨?_⟩ | ((with_reducible show WEach _ _); refine x6 rfl ?_ ?_; conv => whnf) | refine st0 ⟨?_⟩ | ((with_reducible refine SplS.mk (fun h => ?_) (fun h => ?_)) <;> first | exact r0 | (subst h; conv => whnf) | (conv => whnf)) | refine f1 ⟨?_⟩ ⟨?_⟩ | (refine Exists.intro ({k : Nat // StI ⟨w, mem, inn, code⟩ mm ⟨xo, xw, xn, xm, xk⟩ ⟨uo, uw, un, um, uk⟩ k}) (Exists.intro (fun ⟨k, hk⟩ => r4 Tryz.f156.ntmps [(4, .ptr 4 0), (5, .ptr 5 0), (6, .ptr 6 0), (7, .ptr 7 0), (10, .row 24), (26, .dat (.i mm.length)), (27, .dat (.i k))] [(4, .box [.dat (.i w), .dat (.i mem), .dat (.i inn), .dat (.seq .inss code)]), (5, .box [.dat (.i pc), .dat (.seq .terms rg), .dat (.seq .terms mm), .dat (.seq .ints sk), .dat (.i ic), .dat (.seq .terms ot), .dat (.i cd), .dat (.i sp), .dat (.seq .terms cn), .dat (.seq .ints tr)]), (6, .box [.dat (.i xo), .dat (.i xw), .dat (.i xn), .dat (.str xm), .dat (.seq .terms xk)]), (7, .box [.dat (.i uo), .dat (.i uw), .dat (.i un), .dat (.str um), .dat (.seq .terms uk)]), (24, .row 108 .terms (kA ⟨w, mem, inn, code⟩ mm ⟨xo, xw, xn, xm, xk⟩ ⟨uo, uw, un, um, uk⟩ k ++ List.replicate (mm.length - k) zT) false)]) (Exists.intro (fun ⟨k, hk⟩ => mm.length - k) (Exists.intro ⟨0, ?_⟩ (And.intro (SubP.sub (σ := [(4, some 4), (5, some 5), (6, some 6), (7, some 7), (24, some 24)]) ⟨⟨rfl, rfl, rfl⟩, ⟨⟨rfl, rfl⟩, ⟨rfl, rfl⟩, ⟨rfl, rfl⟩, ⟨rfl, rfl⟩, rfl, o0 ?_, o0 ?_, trivial⟩, ⟨⟨j0 ?_, j0 ?_, j0 ?_, j0 ?_, trivial⟩, ⟨j0 ?_, j0 ?_, j0 ?_, j0 ?_, j0 ?_, j0 ?_, j0 ?_, j0 ?_, j0 ?_, j0 ?_, trivial⟩, ⟨j0 ?_, j0 ?_, j0 ?_, j0 ?_, j0 ?_, trivial⟩, ⟨j0 ?_, j0 ?_, j0 ?_, j0 ?_, j0 ?_, trivial⟩, ⟨⟨rfl, rfl⟩, ?_⟩, trivial⟩⟩) (fun ⟨k, hk⟩ => ?_))))); rotate_right; conv => whnf) | (refine Exists.intro (⟨k + 1, ?_⟩ : {k : Nat // StI ⟨w, mem, inn, code⟩ mm ⟨xo, xw, xn, xm, xk⟩ ⟨uo, uw, un, um, uk⟩ k}) (And.intro ?_ (SubP.sub (σ := [(4, some 4), (5, some 5), (6, some 6), (7, some 7), (24, some 24)]) ⟨⟨rfl, rfl, rfl⟩, ⟨⟨rfl, rfl⟩, ⟨rfl, rfl⟩, ⟨rfl, rfl⟩, ⟨rfl, rfl⟩, rfl, o0 ?_, o0 ?_, trivial⟩, ⟨⟨j0 ?_, j0 ?_, j0 ?_, j0 ?_, trivial⟩, ⟨j0 ?_, j0 ?_, j0 ?_, j0 ?_, j0 ?_, j0 ?_, j0 ?_, j0 ?_, j0 ?_, j0 ?_, trivial⟩, ⟨j0 ?_, j0 ?_, j0 ?_, j0 ?_, j0 ?_, trivial⟩, ⟨j0 ?_, j0 ?_, j0 ?_, j0 ?_, j0 ?_, trivial⟩, ⟨⟨rfl, rfl⟩, ?_⟩, trivial⟩⟩))) | ((with_reducible first | refine n0 (g := 135) ?_ | show Exists _); refine ⟨_, t6 .., rfl, ?_⟩; rotate_right; conv => whnf) | ((with_reducible first | refine n0 (g := 152) ?_ | show Exists _); refine ⟨_, mS (h1 := ?_) (hk := ?_) .., rfl, ?_⟩; rotate_right; conv => whnf) | ((with_reducible first | refine n0 (g := 181) ?_ | show Exists _); refine ⟨_, qa5 (hk := ?_) .., rfl, ?_⟩; rotate_right; conv => whnf) | (intro h; conv => whnf))
  all_goals repeat clear hK K1
  all_goals (have hM := g6 hp; dsimp only at hM; try simp only [V.Term.eta] at *)
  all_goals first | exact True.intro | (with_reducible exact st_ok hk asmR asmR) | exact ⟨Nat.zero_le _, rfl⟩ | ((with_reducible show wordP _ _ = true); exact nI hp omG (by show _ < mem; omega)) | ((with_reducible show (_ : Nat) < _); (try dsimp only); first | omega | (simp only [List.length_append, List.length_replicate, cM]; omega)) | (have q := hx.h rfl; dsimp only at q; omega) | ((with_reducible show (_ : Int) ≤ _); first | omega | (show mem * 64 ≤ _; omega) | (show mem ≤ (((2 ^ 63 - 1 : Nat)) : Int); omega)) | ((with_reducible show (_ : Int) < _); first | omega | (simp only [List.length_append, List.length_replicate, cM]; omega)) | ((with_reducible show _ ≤ _); omega) | exact frB (congrArg Prod.snd (pP (p := ⟨w, mem, inn, code⟩) (x := ⟨xo, xw, xn, xm, xk⟩) asmR hm asmR asmR)) | exact congrArg (Dat.seq K.terms) (congrArg Prod.fst (pP (p := ⟨w, mem, inn, code⟩) (x := ⟨xo, xw, xn, xm, xk⟩) asmR hm asmR asmR)) | exact frB (congrArg Prod.snd (dW (p := ⟨w, mem, inn, code⟩) (x := ⟨xo, xw, xn, xm, xk⟩) asmR hm hk asmR)) | (have e := dW (p := ⟨w, mem, inn, code⟩) (x := ⟨xo, xw, xn, xm, xk⟩) (t := ⟨uo, uw, un, um, uk⟩) asmR hm hk asmR; rw [e, show mm.length - k = 0 by omega, List.replicate_zero, List.append_nil]; first | exact rfl | exact frB rfl) | (rw [pP (p := ⟨w, mem, inn, code⟩) (x := ⟨xo, xw, xn, xm, xk⟩) asmR hm asmR asmR]; exact rfl) | exact frB rfl | exact rfl | exact congrArg (Sigma.mk K.terms) (cW asmR rfl).symm | exact congrArg (Sigma.mk K.terms) ((cW asmR rfl).symm.trans (by rw [Int.toNat_natCast])) | (refine congrArg (Dat.int .i64) ?_; rw [wrap_id omG omG]; rfl) | (refine congrArg Dat.i ?_; simp only [List.length_replicate]; omega) | (refine congrArg (Sigma.mk K.terms) ?_; rw [show mm.length - 0 = mem.toNat by omega]; rfl) | skip
end Vg
