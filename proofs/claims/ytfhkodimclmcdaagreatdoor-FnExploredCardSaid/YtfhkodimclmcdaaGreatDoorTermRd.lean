/- reduce makes a good term simple. Condition: the term is good. -/
import Derived.Test.YtfhkodimclmcdaaGreatDoorTermBA
import Derived.Test.YtfhkodimclmcdaaGreatDoorTermBC
import Derived.Test.YtfhkodimclmcdaaGreatDoorTermXC
import Derived.Test.YtfhkodimclmcdaaGreatDoorTermBD
import Derived.Test.YtfhkodimclmcdaaGreatDoorTermBB
import Derived.Test.YtfhkodimclmcdaaGreatDoorTermXA
namespace Vg
open Go Go.Proofs
set_option maxRecDepth 100000
set_option maxHeartbeats 40000000
theorem ql4 (t : V.Term) (ih : IHR (l5 t)) (ht : okT t = true) (ho : 3 <= t.op /\ t.op <= 16) (hc : k5 t.kids = false) :
    CallsV Tryz.prog 189 [.agg [.dat (.i t.op),.dat (.i t.w),.dat (.i t.n),.dat (.str t.name),.dat (.seq .terms t.kids)]] (i5 (j4 t)) := by
  have c : t.op = 3 \/ t.op = 4 \/ t.op = 5 \/ t.op = 6 \/ t.op = 7 \/ t.op = 8 \/ t.op = 9 \/ t.op = 10 \/ t.op = 11 \/ t.op = 12 \/ t.op = 13 \/ t.op = 14 \/ t.op = 15 \/ t.op = 16 := by omega
  rcases c with h|h|h|h|h|h|h|h|h|h|h|h|h|h <;> rw [h]
  . exact i_rB3 t ih ht h hc
  . exact i_rB4 t ih ht h hc
  . exact i_rB5 t ih ht h hc
  . exact i_rB6 t ih ht h hc
  . exact i_rB7 t ih ht h hc
  . exact i_rB8 t ih ht h hc
  . exact i_rB9 t ih ht h hc
  . exact i_rB10 t ih ht h hc
  . exact i_rB11 t ih ht h hc
  . exact i_rB12 t ih ht h hc
  . exact i_rB13 t ih ht h hc
  . exact i_rB14 t ih ht h hc
  . exact i_rB15 t ih ht h hc
  . exact i_rB16 t ih ht h hc
theorem ap_w {t : V.Term} (ht : okT t = true) (ho : 1 <= t.op /\ t.op <= 21) (hc : k5 t.kids = true) : wordP t.w (w6 t (nums t.kids)) = true := by
  refine qhe ht ho (fun i hi=>?_)
  rw [wD]
  exact const_w (qN ht hi) (bT hc hi)
theorem allC_0 (ks : List V.Term) : k5 (ks.take 0) = true := rfl
theorem qhn {ks : List V.Term} {k : Nat} (hk : k < ks.length) : k5 (ks.take (k + 1)) = (k5 (ks.take k) && decide ((kAt ks k).op = 0)) := by
  have e : kAt ks k = ks[k] := by rw [kAt,List.getD_eq_getElem?_getD,List.getElem?_eq_getElem hk];rfl
  rw [e,List.take_add_one,List.getElem?_eq_getElem hk]
  unfold k5
  rw [List.all_append]
  simp
theorem ac_t {ks : List V.Term} {k : Nat} (hk : (k : Int) < ks.length) (h : k5 (ks.take k) = true) : Dat.bool (k5 (ks.take (k + 1))) = Dat.bool ((ks.getD (k : Int).toNat K.terms.dflt).op == 0) := by
  rw [qhn omG,h,Bool.true_and]
  congr 1
theorem ac_f {ks : List V.Term} {k : Nat} (hk : (k : Int) < ks.length) (h : k5 (ks.take k) = false) : Dat.bool (k5 (ks.take (k + 1))) = Dat.bool false := by
  rw [qhn omG,h,Bool.false_and]
theorem aT {ks : List V.Term} {k : Nat} {b : Bool} (hk : k <= ks.length) (h : ¬ (k : Int) < ks.length) (e : k5 (ks.take k) = b) : k5 ks = b := by
  rw [List.take_of_length_le omG] at e;exact e
theorem qku {t : V.Term} (h : ¬ ((t.kids.length : Int) = 0)) : t.kids ≠ [] := fun e=>h (by rw [e];rfl)
theorem i_red0 (t : V.Term) (ih : IHR (l5 t)) (ht : okT t = true) : CallsV Tryz.prog 155 [.agg [.dat (.i t.op),.dat (.i t.w),.dat (.i t.n),.dat (.str t.name),.dat (.seq .terms t.kids)]] (i5 (j4 t)) := by
  refine oV Tryz.func155 ⟨?_⟩
  repeat' (first|((with_reducible refine fun (K1 : KT) hK=>?_);refine r3 ⟨?_⟩)|((with_reducible show K1 _ _);subst hK;conv=>whnf)|(with_reducible refine a8 ?_)|(with_reducible exact rfl)|refine st0 ⟨?_⟩|((with_reducible refine SplS.mk (fun h=>?_) (fun h=>?_)) <;> first|exact u5|(subst h;conv=>whnf)|(conv=>whnf))|refine f2 ⟨?_⟩ ⟨?_⟩|(refine y5 ({k : Nat // k <= t.kids.length}) (fun ⟨k,hk⟩=>x5 Tryz.f155.ntmps [(1,.ptr 1 0),(2,.ptr 2 0),(3,.dat (.bool (k5 (t.kids.take k)))),(12,.dat (.i t.kids.length)),(13,.dat (.i k))] [(1,.box [.dat (.i t.op),.dat (.i t.w),.dat (.i t.n),.dat (.str t.name),.dat (.seq .terms t.kids)]),(2,.box [.dat (.i 0),.dat (.i 0),.dat (.i 0),.dat (.str ByteArray.empty),.nils])]) (fun ⟨k,hk⟩=>t.kids.length - k) ⟨0,Nat.zero_le _⟩ (SubP.sub (σ := [(1,some 1),(2,some 2)]) ⟨⟨rfl,rfl,rfl⟩,⟨rr,rr,o0 ?_,o0 ?_,o0 ?_,trivial⟩,⟨⟨j0 ?_,j0 ?_,j0 ?_,j0 ?_,j0 ?_,trivial⟩,⟨j0 ?_,j0 ?_,j0 ?_,j0 ?_,trivial,trivial⟩,trivial⟩⟩) (fun ⟨k,hk⟩=>?_);rotate_right;conv=>whnf)|(refine b6 (⟨k + 1, ?_⟩ : {k : Nat // k <= t.kids.length}) ?_ (SubP.sub (σ := [(1,some 1),(2,some 2)]) ⟨⟨rfl,rfl,rfl⟩,⟨rr,rr,o0 ?_,o0 ?_,o0 ?_,trivial⟩,⟨⟨j0 ?_,j0 ?_,j0 ?_,j0 ?_,j0 ?_,trivial⟩,⟨j0 ?_,j0 ?_,j0 ?_,j0 ?_,trivial,trivial⟩,trivial⟩⟩))|refine vP (pF ..) ⟨?_⟩|refine vE (oD (h := ?_) ..) ⟨?_⟩|refine vE (i_evA (ht := ?_) (ho := ?_) (hc := ?_) ..) ⟨?_⟩|refine vP (qlz (ht := ?_) (ho := ?_) (hc := ?_) ..) ⟨?_⟩|refine vP (ql1 (ih := by assumption) (ht := ?_) (ho := ?_) (hc := ?_) ..) ⟨?_⟩|refine vP (ql3 (ih := by assumption) (ht := ?_) (ho := ?_) (hc := ?_) ..) ⟨?_⟩|refine vP (qly (ih := by assumption) (ht := ?_) (ho := ?_) (hc := ?_) ..) ⟨?_⟩|refine vP (ql0 (ih := by assumption) (ht := ?_) (ho := ?_) (hc := ?_) ..) ⟨?_⟩|refine vP (ql4 (ih := by assumption) (ht := ?_) (ho := ?_) (hc := ?_) ..) ⟨?_⟩|(intro h;conv=>whnf))
  all_goals repeat clear hK K1
  all_goals first|((with_reducible show (_ : Int) <= _);omega)|((with_reducible show (_ : Int) < _);with_reducible assumption)|((with_reducible show _ < _);(dsimp only;omega))|(with_reducible exact ac_t asmR asmR)|(with_reducible exact ac_f asmR asmR)|exact congrArg (Dat.int .i64) (wrap_succ asmR asmR).symm|((with_reducible show (_ : Int) = _);with_reducible assumption)|((with_reducible show _ <= _);omega)|(with_reducible exact ht)|((with_reducible show k5 _ = false);exact aT hk asmR asmR)|((with_reducible show k5 _ = true);exact aT hk asmR asmR)|((with_reducible show _ \/ _);omega)|(have ho := yH ht (qku asmR);first|((with_reducible show (_ : Int) <= _);omega)|exact ap_w ht ho (aT hk asmR asmR))|exact ⟨k4 ((qct omG).trans (V.Term.eta t).symm)⟩|exact ⟨k4 ((fR omG (aT hk asmR asmR)).trans rfl)⟩|exact ⟨k4 (V.Term.eta _).symm⟩|exact rfl|skip
theorem qd4 : ∀ m,IHR m
  | 0=>⟨fun _ _ _ _ _ _ h=>absurd h (Nat.not_lt_zero _)⟩
  | m + 1=>⟨fun op w n nm ks hk hm=>i_red0 ⟨op,w,n,nm,ks⟩ ⟨fun op' w' n' nm' ks' hk' hm'=>(qd4 m).call op' w' n' nm' ks' hk' omG⟩ hk⟩
theorem ql5 (op w n : Int) (nm : ByteArray) (ks : List V.Term) (hk : okT ⟨op,w,n,nm,ks⟩ = true) :
    CallsV Tryz.prog 155 [.agg [.dat (.i op),.dat (.i w),.dat (.i n),.dat (.str nm),.dat (.seq .terms ks)]] (i5 (j4 ⟨op,w,n,nm,ks⟩)) :=
  (qd4 (l5 ⟨op,w,n,nm,ks⟩ + 1)).call op w n nm ks hk (Nat.lt_succ_self _)
end Vg
