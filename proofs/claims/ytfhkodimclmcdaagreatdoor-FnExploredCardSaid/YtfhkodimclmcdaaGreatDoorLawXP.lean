/- The law FnExplored: the ends of a program divide its tests, each with the state of its run. No condition. -/
import Derived.Test.YtfhkodimclmcdaaGreatDoorOut
import Derived.Test.YtfhkodimclmcdaaGreatDoorStp
import Derived.Test.YtfhkodimclmcdaaGreatDoorGivP
namespace Vg
open Go Go.Proofs
set_option maxRecDepth 100000
set_option maxHeartbeats 40000000
theorem size_eN {b : List Int} {n lo hi : Int} (h1 : -1000 <= lo) (h2 : lo <= hi) (h3 : hi <= 1000000) : IntKind.i64.wrap (lo + (lJ b n).tmod (IntKind.i64.wrap (IntKind.i64.wrap (hi - lo) + 1))) = qK b n lo hi := by
  have h := qa3 b n h2
  unfold qK at h ⊢
  rw [j3 (n := hi - lo) omG omG,j3 (n := hi - lo + 1) omG omG,j3 omG omG]
theorem qa2 {lo hi : Int} (h1 : -1000 <= lo) (h2 : lo <= hi) (h3 : hi <= 1000000) : IntKind.i64.wrap (IntKind.i64.wrap (hi - lo) + 1) ≠ 0 := by
  rw [j3 (n := hi - lo) omG omG,j3 (n := hi - lo + 1) omG omG];omega
theorem qn9 (b : List Int) (n lo hi : Int) (hn : 0 <= n) (h1 : -1000 <= lo) (h2 : lo <= hi) (h3 : hi <= 1000000) (hl : b.length <= maxLen) : CallsV Tryz.prog 6 [.dat (.seq .bytes b),.dat (.i n),.dat (.i lo),.dat (.i hi)] (.dat (.i (qK b n lo hi))) := by
  refine oV Tryz.func6 ⟨?_⟩
  repeat' (first|((with_reducible refine fun (K1 : KT) hK=>?_);refine r3 ⟨?_⟩)|((with_reducible show K1 _ _);subst hK;conv=>whnf)|refine st0 ⟨?_⟩|refine f2 ⟨?_⟩ ⟨?_⟩|refine vP (qoc (hn := ?_) (hl := ?_) ..) ⟨?_⟩|(intro h;conv=>whnf))
  all_goals repeat clear hK K1
  all_goals first|(with_reducible assumption)|exact congrArg (Dat.int .i64) (size_eN h1 h2 h3).symm|exact qa2 h1 h2 h3|exact qa2 h1 h2 h3 asmR|omega|skip
theorem al_at2 {p : V.Prog} (hp : i4 p = true) {k : Nat} (hk : (k : Int) < (aD p.w p.inn).length) : s8 p ((aD p.w p.inn).getD (k : Int).toNat K.intss.dflt) = true := by
  refine allI_in hp ?_
  rw [Int.toNat_natCast,List.getD_eq_getElem?_getD,List.getElem?_eq_getElem omG]
  exact List.getElem_mem _
section
variable {p : V.Prog} {most : Int} {f : Nat} {x : List Int}
theorem xp_pxs (hp : i4 p = true) (h : (p3 p most f (s7 p) []).2 = true) : PxS p (exP p most f) := ⟨fun s hs=>lS (mP hp) s (by rw [ex_l h] at hs;exact hs)⟩
theorem xp_k2 (h0 : 0 <= most) (h1 : most <= 1000) : (exP p most f).length <= 1000 := by have := ex_b (p := p) (f := f) h0;omega
theorem xp_all (hp : i4 p = true) (h : (p3 p most f (s7 p) []).2 = true) : FolAll p f (exP p most f) := ⟨fun x hx=>by rw [ex_l h];exact fol_ok hp hx f⟩
theorem mZ (s : V.State) : (⟨s.pc,s.regs,s.mem,s.stack,s.inn,s.out,s.code,s.steps⟩ : V.State) = s := rfl
theorem xp_beq {C : Prop} {b : Bool} (h : (b == b) = false) : C := by cases b <;> cases h
theorem xp_no {C : Prop} {n L : Nat} (h : [(n : Int)].getD (Int.toNat 0) K.ints.dflt >= (L : Int)) (hn : n < L) : C := by
  have h' : (n : Int) >= L := h
  omega
theorem xp_st {C : Prop} {L : List V.Path} (q : FolOk p x f L) (h9 : ¬ (L.getD (vD p (j2 x) L) K.paths.dflt).code = 9) (h : decide (n5 (j2 x) (L.getD (vD p (j2 x) L) K.paths.dflt) = uA p x f) = false) : C := absurd (q.r h9) (of_decide_eq_false h)
end
theorem l_endsO (w mem inn : Int) (code : List V.Ins) (L : List V.Path) (inp : List Int) (hpx : PxS ⟨w,mem,inn,code⟩ L) (h2 : L.length <= 1000) (hi : s8 ⟨w,mem,inn,code⟩ inp = true) (ho : OneOk ⟨w,mem,inn,code⟩ inp L) : CallsV Tryz.prog 34 [.agg [.dat (.i w),.dat (.i mem),.dat (.i inn),.dat (.seq .inss code)],.dat (.seq .paths L),.dat (.seq .ints inp)] (.dat (.seq .ints [((vD ⟨w,mem,inn,code⟩ (j2 inp) L : Nat) : Int)])) := by
  have q := qmx w mem inn code L inp hpx.x h2 hi
  rwa [ho.e] at q
theorem l_oneL (w mem inn : Int) (code : List V.Ins) (L : List V.Path) (inp : List Int) (hpx : PxS ⟨w,mem,inn,code⟩ L) (h2 : L.length <= 1000) (hi : s8 ⟨w,mem,inn,code⟩ inp = true) (ho : OneOk ⟨w,mem,inn,code⟩ inp L) : CallsV Tryz.prog 10 [.agg [.dat (.i w),.dat (.i mem),.dat (.i inn),.dat (.seq .inss code)],.dat (.seq .paths L),.dat (.seq .ints inp)] (.tup [kH (L.getD (vD ⟨w,mem,inn,code⟩ (j2 inp) L) K.paths.dflt),.dat (.bool true)]) := by
  refine oV Tryz.func10 ⟨?_⟩
  repeat' (first|((with_reducible refine fun (K1 : KT) hK=>?_);refine r3 ⟨?_⟩)|((with_reducible show K1 _ _);subst hK;conv=>whnf)|refine st0 ⟨?_⟩|((with_reducible refine SplS.mk (fun h=>?_) (fun h=>?_)) <;> first|exact o4|(subst h;conv=>whnf)|(conv=>whnf))|refine f2 ⟨?_⟩ ⟨?_⟩|refine vP (l_endsO (hpx := ?_) (h2 := ?_) (hi := ?_) (ho := ?_) ..) ⟨?_⟩|(intro h;conv=>whnf))
  all_goals repeat clear hK K1
  all_goals first|exact True.intro|(with_reducible assumption)|((with_reducible show frzM _ _ _);first|exact frB rfl|exact fr10M rfl)|exact xp_no asmR ho.lt|(have q1 := ho.lt;omega)|skip
theorem qlg (w mem inn : Int) (code : List V.Ins) (L : List V.Path) (fuel : Int) (hp : i4 ⟨w,mem,inn,code⟩ = true) (hf : 0 <= fuel) (hf2 : fuel <= 400) (hpx : PxS ⟨w,mem,inn,code⟩ L) (h2 : L.length <= 1000) (ha : FolAll ⟨w,mem,inn,code⟩ fuel.toNat L) : CallsV Tryz.prog 17 [.agg [.dat (.i w),.dat (.i mem),.dat (.i inn),.dat (.seq .inss code)],.dat (.seq .paths L),.dat (.i fuel)] (.dat (.bool true)) := by
  refine oV Tryz.func17 ⟨?_⟩
  repeat' (first|((with_reducible refine fun (K1 : KT) hK=>?_);refine r3 ⟨?_⟩)|((with_reducible show K1 _ _);subst hK;conv=>whnf)|(with_reducible exact rfl)|refine st0 ⟨?_⟩|((with_reducible refine SplS.mk (fun h=>?_) (fun h=>?_)) <;> first|exact u5|(subst h;conv=>whnf)|(conv=>whnf))|refine f2 ⟨?_⟩ ⟨?_⟩|(refine y5 ({i : Nat // i <= (aD w inn).length}) (fun ⟨i,hi⟩=>x5 Tryz.f17.ntmps [(1,.dat (.seq .paths L)),(2,.dat (.i fuel)),(3,.ptr 3 0),(14,.dat (.seq .intss (aD w inn))),(15,.dat (.i (aD w inn).length)),(16,.dat (.i i))] [(3,.box [.dat (.i w),.dat (.i mem),.dat (.i inn),.dat (.seq .inss code)])]) (fun ⟨i,hi⟩=>(aD w inn).length - i) ⟨0,Nat.zero_le _⟩ (SubP.sub (σ := [(3,some 3)]) ⟨⟨rfl,rfl,rfl⟩,⟨o0 ?_,o0 ?_,rr,o0 ?_,o0 ?_,o0 ?_,trivial⟩,⟨⟨j0 ?_,j0 ?_,j0 ?_,j0 ?_,trivial⟩,trivial⟩⟩) (fun ⟨i,hi⟩=>?_);rotate_right;conv=>whnf)|(refine b6 (⟨i + 1, ?_⟩ : {i : Nat // i <= (aD w inn).length}) ?_ (SubP.sub (σ := [(3,some 3)]) ⟨⟨rfl,rfl,rfl⟩,⟨o0 ?_,o0 ?_,rr,o0 ?_,o0 ?_,o0 ?_,trivial⟩,⟨⟨j0 ?_,j0 ?_,j0 ?_,j0 ?_,trivial⟩,trivial⟩⟩))|refine vP (qjz (hp := ?_) ..) ⟨?_⟩|refine vP (l_oneL (hpx := ?_) (h2 := ?_) (hi := ?_) (ho := ?_) ..) ⟨?_⟩|refine vP (qmw (hx := ?_) (hi := ?_) (hc := ?_) ..) ⟨?_⟩|refine vE (qlf ..) ⟨?_⟩|refine vE (qjo (hi := ?_) (h0 := ?_) (h1 := ?_) ..) ⟨?_⟩|(intro h;conv=>whnf))
  all_goals repeat clear hK K1
  all_goals (try simp only [uD,mZ,Int.toNat_natCast] at *)
  all_goals first|(with_reducible assumption)|omega|(have hi' : (i : Int) < (aD w inn).length := asmR;have hx := al_at2 (p := ⟨w,mem,inn,code⟩) hp hi';(try simp only [Int.toNat_natCast] at hx);have q := ha.h _ hx;first|(with_reducible exact hx)|exact q.o|exact q.o.px|exact q.o.c|exact xp_st q asmR asmR)|(exact Bool.noConfusion (show true = false by assumption))|exact congrArg (Dat.int .i64) (wrap_succ asmR asmR).symm|exact rfl|skip
theorem law_XP (b : List Int) : CallsV Tryz.prog 4 [.dat (.seq .bytes b)] (.dat (.bool true)) := by
  refine oV Tryz.func4 ⟨?_⟩
  repeat' (first|((with_reducible refine fun (K1 : KT) hK=>?_);refine r3 ⟨?_⟩)|((with_reducible show K1 _ _);subst hK;conv=>whnf)|refine st0 ⟨?_⟩|((with_reducible refine SplS.mk (fun h=>?_) (fun h=>?_)) <;> first|exact u5|(subst h;conv=>whnf)|(conv=>whnf))|((with_reducible refine fcI (g := 5) ?_);refine ⟨_,_,qoa (hn := ?_) (hl := asmR) ..,rfl,fun res B hRB=>?_⟩;rotate_right;obtain ⟨⟨w,mem,inn,code,rfl,hp⟩,rfl⟩ := hRB;conv=>whnf)|refine vP (qn9 (hn := ?_) (h1 := ?_) (h2 := ?_) (h3 := ?_) (hl := ?_) ..) ⟨?_⟩|refine vP (qmv (hp := ?_) (hf := ?_) (hf2 := ?_) (hm := ?_) (hm2 := ?_) ..) ⟨?_⟩|refine vP (qjw (hp := ?_) (hf := ?_) (hf2 := ?_) (hm := ?_) (hm2 := ?_) ..) ⟨?_⟩|refine vP (qlg (hp := ?_) (hf := ?_) (hf2 := ?_) (hpx := ?_) (h2 := ?_) (ha := ?_) ..) ⟨?_⟩|(intro h;conv=>whnf))
  all_goals repeat clear hK K1
  all_goals (have sf := qa3 b 60 (lo := 0) (hi := 30) (by decide))
  all_goals first|(with_reducible assumption)|decide|omega|exact xp_pxs hp asmR|exact xp_k2 (by decide) (by decide)|exact xp_all hp asmR|exact xp_beq asmR|exact rfl|skip
end Vg
