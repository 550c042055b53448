/- Runs of the machine: the reference's functions. No condition. -/
import Derived.Test.YtfhkodimclmcdaaGreatDoorMStep
import Derived.Test.YtfhkodimclmcdaaGreatDoorSess
import Derived.Test.YtfhkodimclmcdaaGreatDoorPathQ
import Derived.Test.YtfhkodimclmcdaaGreatDoorPfF
import Derived.Test.YtfhkodimclmcdaaGreatDoorStp
import Derived.Test.YtfhkodimclmcdaaGreatDoorPathS
import Derived.Test.YtfhkodimclmcdaaGreatDoorEvS
import Derived.Test.YtfhkodimclmcdaaGreatDoorPathX
import Derived.Test.YtfhkodimclmcdaaGreatDoorPathW
namespace Vg
open Go Go.Proofs
set_option maxRecDepth 100000
set_option maxHeartbeats 40000000
theorem qij {p : V.Prog} {s : V.State} {inp : List Int} (h : ¬ s.code = 0) : bA p s inp = s := fN (fun x=>h x.1)
def cC (p : V.Prog) : V.State := ⟨0,List.replicate 4 0,List.replicate p.mem.toNat 0,[],0,[],0,0⟩
def uA (p : V.Prog) (inp : List Int) : Nat -> V.State
  | 0=>cC p
  | n + 1=>bA p (uA p inp n) inp
theorem sW {p : V.Prog} {l : List Int} (h : s8 p l = true) : i4 p = true := by
  simp only [s8,Bool.and_eq_true] at h;exact h.1
theorem inp_w {p : V.Prog} {l : List Int} (h : s8 p l = true) : ∀ x ∈ l,wordP p.w x = true := by
  simp only [s8,Bool.and_eq_true,List.all_eq_true] at h;exact h.2.1
theorem qd2 {p : V.Prog} {l : List Int} (h : s8 p l = true) : (l.length : Int) = p.inn := by
  simp only [s8,Bool.and_eq_true] at h;simpa using h.2.2
theorem nZ {p : V.Prog} (h : i4 p = true) : wordP p.w 0 = true := by
  obtain ⟨hw,_⟩ := rQ h
  simp only [wordP,inP,Bool.and_eq_true,decide_eq_true_eq]
  have : (0 : Int) < 2 ^ p.w.toNat := Int.pow_pos (by decide)
  omega
theorem st0_ok {p : V.Prog} (h : i4 p = true) : MOk p (cC p) := by
  have hm := a7 h
  refine ⟨by simp [cC],by simp [cC];omega,⟨Int.le_refl _,by simp [cC]⟩,by simp [cC],by simp [cC],⟨Int.le_refl _,by have := rQ h;simp [cC];omega⟩,by simp [cC],⟨Int.le_refl _,by simp [cC]⟩,⟨Int.le_refl _,by simp [cC]⟩,fun x hx=>?_,fun x hx=>?_,by simp [cC]⟩
  . rw [List.eq_of_mem_replicate hx];exact nZ h
  . rw [List.eq_of_mem_replicate hx];exact nZ h
theorem run_ok {p : V.Prog} {inp : List Int} (h : s8 p inp = true) (n : Nat) : MOk p (uA p inp n) := by
  induction n with
  | zero=>exact st0_ok (sW h)
  | succ n ih=>exact step_ok (sW h) ih (qd2 h) (inp_w h)
theorem run_fix {p : V.Prog} {inp : List Int} {k m : Nat} (h : ¬ (uA p inp k).code = 0) (hm : k <= m) : uA p inp m = uA p inp k := by
  obtain ⟨d,rfl⟩ : ∃ d,m = k + d := ⟨m - k,by omega⟩
  clear hm
  induction d with
  | zero=>rfl
  | succ d ih =>
    show bA p (uA p inp (k + d)) inp = _
    rw [ih];exact qij h
theorem qjq (w mem inn : Int) (c : List V.Ins) (hp : i4 ⟨w,mem,inn,c⟩ = true) : CallsF Tryz.prog 40 [.agg [.dat (.i w),.dat (.i mem),.dat (.i inn),.dat (.seq .inss c)]] true (fun res B=>res = .agg [.dat (.i 0),.row 0,.row 1,.nils,.dat (.i 0),.nils,.dat (.i 0),.dat (.i 0)] /\ B = [.row 3 .ints (List.replicate 4 0) false,.row 3 .ints (List.replicate mem.toNat 0) false]) := by
  refine oF Tryz.func40 ⟨?_⟩
  repeat' (first|((with_reducible refine fun (K1 : KT) hK=>?_);refine w5 ⟨?_⟩)|((with_reducible show K1 _ _);subst hK;conv=>whnf)|(with_reducible exact rfl)|refine st0 ⟨?_⟩|((with_reducible refine SplS.mk (fun h=>?_) (fun h=>?_)) <;> first|exact o4|(conv=>whnf))|refine f2 ⟨?_⟩ ⟨?_⟩|refine vP (kN ..) ⟨?_⟩|fail)
  all_goals repeat clear hK K1
  all_goals first|rfl|exact absurd ((show i4 _ = false by assumption).symm.trans hp) Bool.noConfusion|(have := a7 hp;simp only at this;have hm : maxLen = 9223372036854775807 := rfl;omega)|(have := a7 hp;simp only at this;show (_ : Int) * ((8 : Nat) : Int) <= _;omega)|trace_state
theorem qjn (w mem inn : Int) (c : List V.Ins) (inp : List Int) (fuel : Int) (hp : i4 ⟨w,mem,inn,c⟩ = true) (hi : s8 ⟨w,mem,inn,c⟩ inp = true) (h0 : 0 <= fuel) (h1 : fuel <= 400) : CallsV Tryz.prog 12 [.agg [.dat (.i w),.dat (.i mem),.dat (.i inn),.dat (.seq .inss c)],.dat (.seq .ints inp),.dat (.i fuel)] (datS (uA ⟨w,mem,inn,c⟩ inp fuel.toNat)) := by
  refine oV Tryz.func12 ⟨?_⟩
  repeat' (first|((with_reducible refine fun (K1 : KT) hK=>?_);refine w5 ⟨?_⟩)|((with_reducible show K1 _ _);subst hK;conv=>whnf)|(with_reducible exact rfl)|refine st0 ⟨?_⟩|((with_reducible refine SplS.mk (fun h=>?_) (fun h=>?_)) <;> first|exact o4|(subst h;conv=>whnf)|(conv=>whnf))|refine f2 ⟨?_⟩ ⟨?_⟩|(refine y5 ({k : Nat // k <= fuel.toNat}) (fun ⟨k,hk⟩=>x5 Tryz.f12.ntmps [(1,.dat (.seq .ints inp)),(2,.dat (.i fuel)),(3,.ptr 3 0),(6,.ptr 6 0),(7,.ptr 7 0),(8,.dat (.i k))] [(3,.box [.dat (.i w),.dat (.i mem),.dat (.i inn),.dat (.seq .inss c)]),(6,.box [.dat (.i 0),.nils,.nils,.nils,.dat (.i 0),.nils,.dat (.i 0),.dat (.i 0)]),(7,.box [.dat (.i (uA ⟨w,mem,inn,c⟩ inp k).pc),.row 101,.row 102,.row 103,.dat (.i (uA ⟨w,mem,inn,c⟩ inp k).inn),.row 104,.dat (.i (uA ⟨w,mem,inn,c⟩ inp k).code),.dat (.i (uA ⟨w,mem,inn,c⟩ inp k).steps)]),(101,.row 3 .ints (uA ⟨w,mem,inn,c⟩ inp k).regs false),(102,.row 3 .ints (uA ⟨w,mem,inn,c⟩ inp k).mem false),(103,.row 3 .ints (uA ⟨w,mem,inn,c⟩ inp k).stack false),(104,.row 3 .ints (uA ⟨w,mem,inn,c⟩ inp k).out false)]) (fun ⟨k,hk⟩=>fuel.toNat - k) ⟨0,Nat.zero_le _⟩ (SubP.sub (σ := [(3,some 3),(6,some 6),(7,some 7),(101,some 21000),(102,some 21001),(103,none),(104,none)]) ⟨⟨rfl,rfl,rfl⟩,⟨o0 ?_,o0 ?_,rr,rr,rr,o0 ?_,trivial⟩,⟨⟨j0 ?_,j0 ?_,j0 ?_,j0 ?_,trivial⟩,⟨j0 ?_,trivial,trivial,trivial,j0 ?_,trivial,j0 ?_,j0 ?_,trivial⟩,⟨j0 ?_,rfl,rfl,rfl,j0 ?_,rfl,j0 ?_,j0 ?_,trivial⟩,⟨rr, ?_⟩,⟨rr, ?_⟩, ?_, ?_,trivial⟩⟩) (fun ⟨k,hk⟩=>?_);rotate_right;conv=>whnf)|(refine b6 ⟨k + 1, ?_⟩ ?_ (SubP.sub (σ := [(3,some 3),(6,some 6),(7,some 7),(101,some 35000),(102,some 35001),(103,some 35002),(104,some 35003)]) ⟨⟨rfl,rfl,rfl⟩,⟨o0 ?_,o0 ?_,rr,rr,rr,o0 ?_,trivial⟩,⟨⟨j0 ?_,j0 ?_,j0 ?_,j0 ?_,trivial⟩,⟨j0 ?_,trivial,trivial,trivial,j0 ?_,trivial,j0 ?_,j0 ?_,trivial⟩,⟨j0 ?_,rfl,rfl,rfl,j0 ?_,rfl,j0 ?_,j0 ?_,trivial⟩,⟨rr, ?_⟩,⟨rr, ?_⟩,⟨rr, ?_⟩,⟨rr, ?_⟩,trivial⟩⟩))|refine vP (qju ..) ⟨?_⟩|refine vP (zA ..) ⟨?_⟩|refine eS (qjq (hp := by assumption) ..) ⟨?_⟩|refine gS (qi5 (hp := ?_) (hM := ?_) (hin := ?_) (_hiw := ?_) ..) ⟨?_⟩|(intro h;conv=>whnf))
  all_goals repeat clear hK K1
  all_goals first|rfl|assumption|omega|(dsimp only;omega)|exact run_ok hi k|exact qd2 hi|exact absurd ((show s8 _ _ = false by assumption).symm.trans hi) Bool.noConfusion|(simp [inP,h0,h1] at *;done)|exact congrArg (Dat.int .i64) (show ((k + 1 : Nat) : Int) = IntKind.i64.wrap ((k : Int) + 1) by rw [j3 omG omG];rfl)|exact inp_w hi _ (by assumption)|(rw [show fuel.toNat = k from by omega];exact rfl)|(rw [run_fix (k := k) (m := fuel.toNat) (by assumption) omG];exact rfl)|skip
theorem qjo (w mem inn : Int) (c : List V.Ins) (inp : List Int) (fuel : Int) (hi : s8 ⟨w,mem,inn,c⟩ inp = true) (h0 : 0 <= fuel) (h1 : fuel <= 400) : CallsV Tryz.prog 12 [.agg [.dat (.i w),.dat (.i mem),.dat (.i inn),.dat (.seq .inss c)],.dat (.seq .ints inp),.dat (.i fuel)] (datS (uA ⟨w,mem,inn,c⟩ inp fuel.toNat)) :=
  qjn (hp := sW hi) (hi := hi) (h0 := h0) (h1 := h1) ..
structure CsOk (p : V.Prog) (l : List V.Term) : Prop where
  q : ∀ t,t ∈ l -> Qt p 1 t
theorem CsOk.at {p : V.Prog} {l : List V.Term} {k : Nat} (h : CsOk p l) (hk : (k : Int) < l.length) : Qt p 1 (l.getD (k : Int).toNat K.terms.dflt) := by
  rw [Int.toNat_natCast];exact gD (P := Qt p 1) h.q omG
/-! ### the term of an outcome -/
abbrev pAt (l : List V.Path) (i : Nat) : V.Path := l.getD i K.paths.dflt
structure PxS (p : V.Prog) (l : List V.Path) : Prop where
  x : ∀ s,s ∈ l -> PX p s
theorem PxS.at {p : V.Prog} {l : List V.Path} {i : Nat} (h : PxS p l) (hi : i < l.length) : PX p (pAt l i) := h.x _ (rF hi)
theorem PX.cs {p : V.Prog} {s : V.Path} (h : PX p s) : CsOk p s.cond := ⟨h.q.c⟩
section
variable {p : V.Prog} {l : List V.Path} {k : Int} {x : List Int}
end
/-! ### the ends of an exploration -/
noncomputable def k9 (p : V.Prog) : Nat -> V.Path -> List V.Path
  | 0,s=>[s]
  | f + 1,s=>if (u0 p s).length = 0 then [s] else (u0 p s).flatMap (k9 p f)
section
variable {p : V.Prog} {x : List Int}
theorem lS : ∀ {f : Nat} {s : V.Path},PX p s -> ∀ e,e ∈ k9 p f s -> PX p e
  | 0,s,h,e,he=>by rw [k9,List.mem_singleton] at he;subst he;exact h
  | f + 1,s,h,e,he=>by
    rw [k9] at he
    split at he
    . rw [List.mem_singleton] at he;subst he;exact h
    . obtain ⟨t,ht,he⟩ := List.mem_flatMap.1 he
      exact lS (h.step t ht) e he
theorem dW {l : List V.Path} {t : V.Path} (h : t ∈ l) : ∃ j,j < l.length /\ l.getD j K.paths.dflt = t := by
  obtain ⟨j,hj,e⟩ := List.getElem_of_mem h
  exact ⟨j,hj,by rw [List.getD_eq_getElem?_getD,List.getElem?_eq_getElem hj];exact e⟩
theorem qfg {σ : ByteArray -> Int} : ∀ {f : Nat} {s : V.Path},∀ e,e ∈ k9 p f s -> o7 σ e = true -> o7 σ s = true
  | 0,s,e,he,hc=>by rw [k9,List.mem_singleton] at he;subst he;exact hc
  | f + 1,s,e,he,hc=>by
    rw [k9] at he
    split at he
    . rw [List.mem_singleton] at he;subst he;exact hc
    . obtain ⟨t,ht,he⟩ := List.mem_flatMap.1 he
      have q := qfg e he hc
      obtain ⟨j,hj,rfl⟩ := dW ht
      cases z : o7 σ s with
      | true=>rfl
      | false=>rw [qas z hj] at q;cases q
theorem expl_9 {f : Nat} {s : V.Path} (h : s.code = 9) : k9 p f s = [s] := by
  cases f with
  | zero=>rfl
  | succ f=>rw [k9,if_pos (by rw [step_9 h];rfl)]
theorem qfh (hl : InOk p x) : ∀ {f : Nat} {s : V.Path},PX p s -> ∀ e,e ∈ k9 p f s -> o7 (j2 x) e = true -> e.code ≠ 9 -> n5 (j2 x) e = yG p x f (n5 (j2 x) s)
  | 0,s,h,e,he,hc,h9=>by rw [k9,List.mem_singleton] at he;subst he;rfl
  | f + 1,s,h,e,he,hc,h9=>by
    rw [k9] at he
    split at he
    . rename_i c
      rw [List.mem_singleton] at he;subst he
      have q := qim c
      exact (qao (S := n5 (j2 x) e) (fun z=>by have z1 : e.code = 0 := z.1;have z2 : e.steps < 400 := z.2;omega) (f + 1)).symm
    . obtain ⟨t,ht,he⟩ := List.mem_flatMap.1 he
      have n9 : t.code ≠ 9 := fun z=>by
        rw [expl_9 z,List.mem_singleton] at he;subst he;exact h9 z
      rw [qfh hl (h.step t ht) e he hc h9,qik h hl ht (qfg e he hc) n9];rfl
theorem qap : ∀ (n : Nat) (S : V.State),yG p x (n + 1) S = bA p (yG p x n S) x
  | 0,S=>rfl
  | n + 1,S=>by rw [yG,qap n,yG]
theorem qbj : ∀ n : Nat,uA p x n = yG p x n (cC p)
  | 0=>rfl
  | n + 1=>by rw [uA,qbj n,qap]
theorem qio {σ : ByteArray -> Int} : n5 σ (s7 p) = cC p := by
  unfold n5 s7 cC
  simp only [List.map_replicate,List.map_nil,iE]
end
/-! ### the exploration with its bound -/
noncomputable def m5 (g : V.Path -> List V.Path -> List V.Path × Bool) (l : List V.Path) (E : List V.Path) : Nat -> List V.Path × Bool
  | 0=>(E,true)
  | k + 1=>if (m5 g l E k).2 = true then g (l.getD k K.paths.dflt) (m5 g l E k).1 else m5 g l E k
noncomputable def p3 (p : V.Prog) (most : Int) : Nat -> V.Path -> List V.Path -> List V.Path × Bool
  | 0,s,E=>(E ++ [s],decide ((E.length : Int) + 1 <= most))
  | f + 1,s,E=>if (u0 p s).length = 0 then (E ++ [s],decide ((E.length : Int) + 1 <= most)) else m5 (p3 p most f) (u0 p s) E (u0 p s).length
section
variable {p : V.Prog} {most : Int}
theorem goL_t {g : V.Path -> List V.Path -> List V.Path × Bool} {l E : List V.Path} : ∀ {k : Nat},(m5 g l E (k + 1)).2 = true -> (m5 g l E k).2 = true /\ m5 g l E (k + 1) = g (l.getD k K.paths.dflt) (m5 g l E k).1 := by
  intro k h
  rw [m5] at h ⊢
  split at h
  . rename_i c;rw [if_pos c];exact ⟨c,rfl⟩
  . rename_i c;exact absurd h c
theorem qeq {g : V.Path -> List V.Path -> List V.Path × Bool} {h : V.Path -> List V.Path} (hg : ∀ s E,(g s E).2 = true -> (g s E).1 = E ++ h s) {l E : List V.Path} : ∀ {k : Nat},k <= l.length -> (m5 g l E k).2 = true -> (m5 g l E k).1 = E ++ (l.take k).flatMap h
  | 0,_,_=>by rw [m5,List.take_zero];simp
  | k + 1,hk,ht=>by
    obtain ⟨h1,h2⟩ := goL_t ht
    rw [h2] at ht ⊢
    rw [hg _ _ ht,qeq hg omG h1,List.append_assoc]
    have e : l.take (k + 1) = l.take k ++ [l.getD k K.paths.dflt] := by
      rw [List.take_succ_eq_append_getElem omG,List.getD_eq_getElem?_getD,List.getElem?_eq_getElem omG];rfl
    rw [e,List.flatMap_append]
    simp
theorem cX : ∀ {f : Nat} {s : V.Path} {E : List V.Path},(p3 p most f s E).2 = true -> (p3 p most f s E).1 = E ++ k9 p f s
  | 0,s,E,_=>rfl
  | f + 1,s,E,h=>by
    rw [p3] at h ⊢
    rw [k9]
    by_cases c : (u0 p s).length = 0
    . rw [if_pos c,if_pos c]
    . rw [if_neg c] at h ⊢
      rw [if_neg c]
      have q := qeq (g := p3 p most f) (h := k9 p f) (fun s E hb=>cX hb) (Nat.le_refl _) h
      rwa [List.take_length] at q
theorem goL_b {g : V.Path -> List V.Path -> List V.Path × Bool} (hg : ∀ s E,(E.length : Int) <= most -> (g s E).2 = true -> ((g s E).1.length : Int) <= most) {l E : List V.Path} (hE : (E.length : Int) <= most) : ∀ {k : Nat},(m5 g l E k).2 = true -> ((m5 g l E k).1.length : Int) <= most
  | 0,_=>by rw [m5];exact hE
  | k + 1,h=>by
    obtain ⟨h1,h2⟩ := goL_t h
    rw [h2] at h ⊢
    exact hg _ _ (goL_b hg hE h1) h
theorem wL : ∀ {f : Nat} {s : V.Path} {E : List V.Path},(E.length : Int) <= most -> (p3 p most f s E).2 = true -> ((p3 p most f s E).1.length : Int) <= most
  | 0,s,E,_,h=>by
    rw [p3] at h ⊢
    have h' := of_decide_eq_true h
    rw [List.length_append,List.length_singleton];omega
  | f + 1,s,E,hE,h=>by
    rw [p3] at h ⊢
    by_cases c : (u0 p s).length = 0
    . rw [if_pos c] at h ⊢
      have h' := of_decide_eq_true h
      rw [List.length_append,List.length_singleton];omega
    . rw [if_neg c] at h ⊢
      exact goL_b (fun s E hb ht=>wL hb ht) hE h
end
theorem qf8 {α : Type} {P : α -> Bool} {l : List α} (h : ∀ t,t ∈ l -> P t = false) : l.countP P = 0 := List.countP_eq_zero.2 fun t ht=>by rw [h t ht];exact Bool.false_ne_true
structure OneAt (P : V.Path -> Bool) (l : List V.Path) (n : Nat) : Prop where
  lt : n < l.length
  y : P (l.getD n K.paths.dflt) = true
  n : ∀ j,j < l.length -> j ≠ n -> P (l.getD j K.paths.dflt) = false
theorem qf7 {P : V.Path -> Bool} : ∀ {l : List V.Path} {n : Nat},OneAt P l n -> l.countP P = 1
  | [],n,h=>absurd h.lt (Nat.not_lt_zero _)
  | t :: l,0,h=>by
    rw [List.countP_cons,if_pos (show P t = true from h.y),qf8]
    intro u hu
    obtain ⟨j,hj,rfl⟩ := dW hu
    exact h.n (j + 1) (by rw [List.length_cons];omega) omG
  | t :: l,n + 1,h=>by
    rw [List.countP_cons,if_neg (by rw [show P t = false from h.n 0 (by rw [List.length_cons];omega) omG];exact Bool.false_ne_true)]
    exact qf7 (n := n) ⟨by have := h.lt;rw [List.length_cons] at this;omega,h.y,fun j hj hn=>h.n (j + 1) (by rw [List.length_cons];omega) omG⟩
theorem qb5 {P : V.Path -> Bool} : ∀ {l : List V.Path},l.countP P = 1 -> ∃ n,OneAt P l n
  | [],h=>by cases h
  | t :: l,h=>by
    rw [List.countP_cons] at h
    by_cases c : P t = true
    . rw [if_pos c] at h
      have h0 : l.countP P = 0 := by omega
      refine ⟨0,by rw [List.length_cons];omega,c,fun j hj hn=>?_⟩
      match j,hn with
      | 0,hn=>exact absurd rfl hn
      | j + 1,_ =>
        have hj' : j < l.length := by rw [List.length_cons] at hj;omega
        have := List.countP_eq_zero.1 h0 _ (rF hj')
        show P (l.getD j K.paths.dflt) = false
        simpa using this
    . rw [if_neg c] at h
      obtain ⟨n,q⟩ := qb5 (l := l) omG
      refine ⟨n + 1,by have := q.lt;rw [List.length_cons];omega,q.y,fun j hj hn=>?_⟩
      match j with
      | 0=>simpa using c
      | j + 1=>exact q.n j (by rw [List.length_cons] at hj;omega) omG
section
variable {p : V.Prog} {x : List Int}
theorem qin (hl : InOk p x) {s : V.Path} (h : PX p s) (hn : (u0 p s).length ≠ 0) : (u0 p s).countP (o7 (j2 x)) = if o7 (j2 x) s = true then 1 else 0 := by
  split
  . rename_i hc
    have q := aU h hl hc hn
    exact qf7 (n := iD p (j2 x) s) ⟨q.1,q.2.1,fun j hj hne=>qil h hl hc hj hne⟩
  . rename_i hc
    refine qf8 fun t ht=>?_
    obtain ⟨j,hj,rfl⟩ := dW ht
    exact qas (by simpa using hc) hj
theorem qam {P Q : V.Path -> Bool} {f : V.Path -> List V.Path} : ∀ {l : List V.Path},(∀ t,t ∈ l -> (f t).countP Q = if P t = true then 1 else 0) -> (l.flatMap f).countP Q = l.countP P
  | [],_=>rfl
  | t :: l,h=>by
    rw [List.flatMap_cons,List.countP_append,List.countP_cons,h t (List.mem_cons_self ..),qam (fun u hu=>h u (List.mem_cons_of_mem _ hu)),Nat.add_comm]
theorem qfi (hl : InOk p x) : ∀ {f : Nat} {s : V.Path},PX p s -> (k9 p f s).countP (o7 (j2 x)) = if o7 (j2 x) s = true then 1 else 0
  | 0,s,_=>by rw [k9,List.countP_singleton]
  | f + 1,s,h=>by
    rw [k9]
    split
    . rw [List.countP_singleton]
    . rename_i c
      rw [qam (fun t ht=>qfi hl (f := f) (h.step t ht)),qin hl h c]
theorem qnq (hl : InOk p x) {f : Nat} {s : V.Path} (h : PX p s) (hc : o7 (j2 x) s = true) : ∃ n,OneAt (o7 (j2 x)) (k9 p f s) n := qb5 (by rw [qfi hl h,if_pos hc])
noncomputable def vD (p : V.Prog) (σ : ByteArray -> Int) (L : List V.Path) : Nat := ((aB p σ L L.length).getD 0 0).toNat
structure OneOk (p : V.Prog) (x : List Int) (L : List V.Path) : Prop where
  e : aB p (j2 x) L L.length = [((vD p (j2 x) L : Nat) : Int)]
  lt : vD p (j2 x) L < L.length
  px : PX p (L.getD (vD p (j2 x) L) K.paths.dflt)
  c : o7 (j2 x) (L.getD (vD p (j2 x) L) K.paths.dflt) = true
structure FolOk (p : V.Prog) (x : List Int) (f : Nat) (L : List V.Path) : Prop where
  o : OneOk p x L
  r : (L.getD (vD p (j2 x) L) K.paths.dflt).code ≠ 9 -> n5 (j2 x) (L.getD (vD p (j2 x) L) K.paths.dflt) = uA p x f
structure FolAll (p : V.Prog) (f : Nat) (L : List V.Path) : Prop where
  h : ∀ x,s8 p x = true -> FolOk p x f L
theorem fol_ok (hp : i4 p = true) (hi : s8 p x = true) (f : Nat) : FolOk p x f (k9 p f (s7 p)) := by
  have hl := (tW hi).2
  have hx := mP hp
  obtain ⟨n,q⟩ := qnq hl (f := f) hx (rfl : o7 (j2 x) (s7 p) = true)
  have hpx : ∀ j,j < (k9 p f (s7 p)).length -> PX p ((k9 p f (s7 p)).getD j K.paths.dflt) := fun j hj=>lS hx _ (rF hj)
  have e : aB p (j2 x) (k9 p f (s7 p)) (k9 p f (s7 p)).length = [(n : Int)] := qfl (by rw [mO (hpx n q.lt)];exact q.y) q.lt fun j hj hn=>by rw [mO (hpx j hj)];exact q.n j hj hn
  have en : vD p (j2 x) (k9 p f (s7 p)) = n := by unfold vD;rw [e];rfl
  refine ⟨⟨by rw [en];exact e,by rw [en];exact q.lt,by rw [en];exact hpx n q.lt,by rw [en];exact q.y⟩, ?_⟩
  rw [en]
  intro h9
  rw [qfh hl hx _ (rF q.lt) q.y h9,qio,qbj]
structure Fs (s t : V.Path) : Prop where
  st : t.steps = s.steps
  cd : t.code = s.code \/ t.code ≠ 2
theorem fs_ite {s : V.Path} {c : Prop} [Decidable c] {a b : V.Path × Bool} (h1 : Fs s a.1) (h2 : Fs s b.1) : Fs s (if c then a else b).1 := by split <;> assumption
theorem qnh (p : V.Prog) (s : V.Path) (i : V.Ins) : Fs s (i6 p s i).1 := by
  unfold i6
  repeat' (with_reducible refine fs_ite ?_ ?_)
  all_goals first|exact ⟨rfl,.inl rfl⟩|exact ⟨rfl,.inr (by decide : (1 : Int) ≠ 2)⟩
theorem qkv (s : V.Path) (i : V.Ins) : Fs s (p9 s i) := by
  unfold p9
  repeat' split
  . exact ⟨rfl,.inl rfl⟩
  . exact ⟨rfl,.inr (by decide : (8 : Int) ≠ 2)⟩
  . exact ⟨rfl,.inr (by decide : (6 : Int) ≠ 2)⟩
  . exact ⟨rfl,.inr (by decide : (5 : Int) ≠ 2)⟩
theorem Fs.n2 {s t : V.Path} (h : Fs s t) (h0 : s.code = 0) : t.code ≠ 2 := by
  rcases h.cd with e|e
  . rw [e,h0];decide
  . exact e
theorem qnw {s : V.Path} {i : V.Ins} (h0 : s.code = 0) {t : V.Path} (ht : t ∈ g9 p s i) : t.steps = s.steps /\ t.code ≠ 2 := by
  have hf := qnh p s i
  have hn := qkv s i
  unfold g9 at ht
  repeat' split at ht
  . rw [List.mem_singleton] at ht;subst ht;exact ⟨rfl,(by decide : (9 : Int) ≠ 2)⟩
  . rw [List.mem_singleton] at ht;subst ht;exact ⟨hn.st,hn.n2 h0⟩
  . rw [List.mem_singleton] at ht;subst ht;exact ⟨rfl,(by decide : (9 : Int) ≠ 2)⟩
  . rw [List.mem_singleton] at ht;subst ht;exact ⟨hf.st,hf.n2 h0⟩
  . rw [List.mem_singleton] at ht;subst ht;exact ⟨rfl,(by decide : (9 : Int) ≠ 2)⟩
  . rcases List.mem_cons.1 ht with rfl|ht
    . exact ⟨hn.st,hn.n2 h0⟩
    . rw [List.mem_singleton] at ht;subst ht;exact ⟨hf.st,hf.n2 h0⟩
def mC (s t : V.Path) : Int := if t.code = 2 then t.steps - s.steps + 1 else t.steps - s.steps
theorem stuck_2 {s : V.Path} {i : V.Ins} : g5 p s i ≠ 2 := by
  unfold g5
  repeat' split
  all_goals decide
theorem qai {s t : V.Path} (ht : t ∈ u0 p s) : mC s t = 1 := by
  unfold u0 at ht
  split at ht
  . cases ht
  rename_i c
  split at ht
  . rw [List.mem_singleton] at ht;subst ht
    unfold mC
    rw [if_pos (show (2 : Int) = 2 from rfl)]
    show s.steps - s.steps + 1 = 1
    omega
  split at ht
  . rw [List.mem_singleton] at ht;subst ht
    unfold mC
    rw [if_neg stuck_2]
    show s.steps + 1 - s.steps = 1
    omega
  . have q := qnw (s := { s with steps := s.steps + 1 }) (show s.code = 0 by omega) ht
    unfold mC
    rw [if_neg q.2,q.1]
    show s.steps + 1 - s.steps = 1
    omega
end
structure IHgo (w mem inn : Int) (code : List V.Ins) (most : Int) (n : Nat) : Prop where
  call : ∀ (pc : Int) (rg mm : List V.Term) (sk : List Int) (ic : Int) (ot : List V.Term) (cd sp : Int) (cn : List V.Term) (tr : List Int) (E : List V.Path) (left : Int),left.toNat < n -> PX ⟨w,mem,inn,code⟩ ⟨pc,rg,mm,sk,ic,ot,cd,sp,cn,tr⟩ -> (E.length : Int) <= most -> CallsG Tryz.prog 84 [.ptr 0 0,.agg [.dat (.i pc),.dat (.seq .terms rg),.dat (.seq .terms mm),.dat (.seq .ints sk),.dat (.i ic),.dat (.seq .terms ot),.dat (.i cd),.dat (.i sp),.dat (.seq .terms cn),.dat (.seq .ints tr)],.dat (.i left)] [.box [.dat (.i w),.dat (.i mem),.dat (.i inn),.dat (.seq .inss code),.dat (.i most),.dat (.i (-1)),.row 1],.row 36 .paths E false] 1 (fun res B=>res = .dat (.bool (p3 ⟨w,mem,inn,code⟩ most left.toNat ⟨pc,rg,mm,sk,ic,ot,cd,sp,cn,tr⟩ E).2) /\ B = [.box [.dat (.i w),.dat (.i mem),.dat (.i inn),.dat (.seq .inss code),.dat (.i most),.dat (.i (-1)),.row 1],.row 36 .paths (p3 ⟨w,mem,inn,code⟩ most left.toNat ⟨pc,rg,mm,sk,ic,ot,cd,sp,cn,tr⟩ E).1 false])
theorem ih_go {w mem inn : Int} {code : List V.Ins} {most : Int} {n : Nat} (ih : IHgo w mem inn code most n) {pc : Int} {rg mm : List V.Term} {sk : List Int} {ic : Int} {ot : List V.Term} {cd sp : Int} {cn : List V.Term} {tr : List Int} {E : List V.Path} {left : Int} (hs : left.toNat < n) (hx : PX ⟨w,mem,inn,code⟩ ⟨pc,rg,mm,sk,ic,ot,cd,sp,cn,tr⟩) (hE : (E.length : Int) <= most) : CallsG Tryz.prog 84 [.ptr 0 0,.agg [.dat (.i pc),.dat (.seq .terms rg),.dat (.seq .terms mm),.dat (.seq .ints sk),.dat (.i ic),.dat (.seq .terms ot),.dat (.i cd),.dat (.i sp),.dat (.seq .terms cn),.dat (.seq .ints tr)],.dat (.i left)] [.box [.dat (.i w),.dat (.i mem),.dat (.i inn),.dat (.seq .inss code),.dat (.i most),.dat (.i (-1)),.row 1],.row 36 .paths E false] 1 (fun res B=>res = .dat (.bool (p3 ⟨w,mem,inn,code⟩ most left.toNat ⟨pc,rg,mm,sk,ic,ot,cd,sp,cn,tr⟩ E).2) /\ B = [.box [.dat (.i w),.dat (.i mem),.dat (.i inn),.dat (.seq .inss code),.dat (.i most),.dat (.i (-1)),.row 1],.row 36 .paths (p3 ⟨w,mem,inn,code⟩ most left.toNat ⟨pc,rg,mm,sk,ic,ot,cd,sp,cn,tr⟩ E).1 false]) := ih.call pc rg mm sk ic ot cd sp cn tr E left hs hx hE
section
variable {p : V.Prog} {s : V.Path} {E : List V.Path} {most left : Int} {k : Nat}
theorem pO (h : ¬ left > 0) : p3 p most left.toNat s E = (E ++ [s],decide ((E.length : Int) + 1 <= most)) := by
  rw [show left.toNat = 0 by omega];rfl
theorem oO (h0 : ((u0 p s).length : Int) = 0) : p3 p most left.toNat s E = (E ++ [s],decide ((E.length : Int) + 1 <= most)) := by
  cases left.toNat with
  | zero=>rfl
  | succ f=>rw [p3,if_pos omG]
theorem nO (h : left > 0) (h0 : ¬ ((u0 p s).length : Int) = 0) : p3 p most left.toNat s E = m5 (p3 p most (left.toNat - 1)) (u0 p s) E (u0 p s).length := by
  rw [show left.toNat = (left.toNat - 1) + 1 by omega,p3,if_neg omG];rfl
theorem bX : ((E ++ [s]).length : Int) = E.length + 1 := by rw [List.length_append,List.length_singleton];rfl
theorem go_b : decide (((E ++ [s]).length : Int) <= most) = decide ((E.length : Int) + 1 <= most) := by rw [bX]
structure GoI (p : V.Prog) (most : Int) (f : Nat) (s : V.Path) (E : List V.Path) (k : Nat) : Prop where
  kl : k <= (u0 p s).length
  b : (m5 (p3 p most f) (u0 p s) E k).2 = true
  ln : ((m5 (p3 p most f) (u0 p s) E k).1.length : Int) <= most
theorem gi_0 {f : Nat} (hE : (E.length : Int) <= most) : GoI p most f s E 0 := ⟨Nat.zero_le _,rfl,hE⟩
theorem xL (h : left > 0) (h4 : left <= 400) : (IntKind.i64.wrap (left - 1)).toNat = left.toNat - 1 := by rw [j3 omG omG];omega
theorem gi_e {f : Nat} (hq : GoI p most f s E k) : m5 (p3 p most f) (u0 p s) E (k + 1) = p3 p most f ((u0 p s).getD (k : Int).toNat K.paths.dflt) (m5 (p3 p most f) (u0 p s) E k).1 := by
  rw [m5,if_pos hq.b,Int.toNat_natCast]
theorem gi_s {f : Nat} (hq : GoI p most f s E k) (hk : (k : Int) < (u0 p s).length) (h : (p3 p most f ((u0 p s).getD (k : Int).toNat K.paths.dflt) (m5 (p3 p most f) (u0 p s) E k).1).2 = true) : GoI p most f s E (k + 1) := by
  refine ⟨by omega,by rw [gi_e hq];exact h, ?_⟩
  rw [gi_e hq];exact wL hq.ln h
theorem qes {g : V.Path -> List V.Path -> List V.Path × Bool} {l : List V.Path} (h : (m5 g l E k).2 = false) : ∀ j,m5 g l E (k + j) = m5 g l E k
  | 0=>rfl
  | j + 1=>by
    have ih := qes h j
    show m5 g l E (k + j + 1) = _
    rw [m5,if_neg (by rw [ih,h];exact Bool.false_ne_true),ih]
theorem gi_n {f : Nat} (hq : GoI p most f s E k) (hk : (k : Int) < (u0 p s).length) (h : (p3 p most f ((u0 p s).getD (k : Int).toNat K.paths.dflt) (m5 (p3 p most f) (u0 p s) E k).1).2 = false) : m5 (p3 p most f) (u0 p s) E (u0 p s).length = p3 p most f ((u0 p s).getD (k : Int).toNat K.paths.dflt) (m5 (p3 p most f) (u0 p s) E k).1 := by
  rw [<- gi_e hq] at h ⊢
  have q := qes h ((u0 p s).length - (k + 1))
  rwa [show k + 1 + ((u0 p s).length - (k + 1)) = (u0 p s).length by omega] at q
theorem qet {f : Nat} (hq : GoI p most f s E k) (hk : ¬ (k : Int) < (u0 p s).length) : m5 (p3 p most f) (u0 p s) E (u0 p s).length = m5 (p3 p most f) (u0 p s) E k := by rw [show (u0 p s).length = k by have := hq.kl;omega]
theorem gx_0 (h : ¬ left > 0) : E ++ [s] = (p3 p most left.toNat s E).1 := by rw [pO h]
theorem gx_1 (h : ((u0 p s).length : Int) = 0) : E ++ [s] = (p3 p most left.toNat s E).1 := by rw [oO h]
theorem gx_n (h : left > 0) (h4 : left <= 400) (h0 : ¬ ((u0 p s).length : Int) = 0) (hq : GoI p most (left.toNat - 1) s E k) (hk : (k : Int) < (u0 p s).length) (hb : (p3 p most (IntKind.i64.wrap (left - 1)).toNat ((u0 p s).getD (k : Int).toNat K.paths.dflt) (m5 (p3 p most (left.toNat - 1)) (u0 p s) E k).1).2 = false) :
    (p3 p most (IntKind.i64.wrap (left - 1)).toNat ((u0 p s).getD (k : Int).toNat K.paths.dflt) (m5 (p3 p most (left.toNat - 1)) (u0 p s) E k).1).1 = (p3 p most left.toNat s E).1 := by
  rw [xL h h4] at hb ⊢
  rw [nO h h0,gi_n hq hk hb]
theorem gx_n2 (h : left > 0) (h4 : left <= 400) (h0 : ¬ ((u0 p s).length : Int) = 0) (hq : GoI p most (left.toNat - 1) s E k) (hk : (k : Int) < (u0 p s).length) (hb : (p3 p most (IntKind.i64.wrap (left - 1)).toNat ((u0 p s).getD (k : Int).toNat K.paths.dflt) (m5 (p3 p most (left.toNat - 1)) (u0 p s) E k).1).2 = false) :
    false = (p3 p most left.toNat s E).2 := by
  rw [xL h h4] at hb
  rw [nO h h0,gi_n hq hk hb,hb]
theorem gx_s (h : left > 0) (h4 : left <= 400) (hq : GoI p most (left.toNat - 1) s E k) (hk : (k : Int) < (u0 p s).length) (hb : (p3 p most (IntKind.i64.wrap (left - 1)).toNat ((u0 p s).getD (k : Int).toNat K.paths.dflt) (m5 (p3 p most (left.toNat - 1)) (u0 p s) E k).1).2 = true) : GoI p most (left.toNat - 1) s E (k + 1) := by
  rw [xL h h4] at hb
  exact gi_s hq hk hb
theorem gx_k (h : left > 0) (h4 : left <= 400) (hq : GoI p most (left.toNat - 1) s E k) : (m5 (p3 p most (left.toNat - 1)) (u0 p s) E (k + 1)).1 = (p3 p most (IntKind.i64.wrap (left - 1)).toNat ((u0 p s).getD (k : Int).toNat K.paths.dflt) (m5 (p3 p most (left.toNat - 1)) (u0 p s) E k).1).1 := by
  rw [xL h h4,gi_e hq]
theorem gx_e (h : left > 0) (h0 : ¬ ((u0 p s).length : Int) = 0) (hq : GoI p most (left.toNat - 1) s E k) (hk : ¬ (k : Int) < (u0 p s).length) : (m5 (p3 p most (left.toNat - 1)) (u0 p s) E k).1 = (p3 p most left.toNat s E).1 := by
  rw [nO h h0,qet hq hk]
theorem gx_e2 (h : left > 0) (h0 : ¬ ((u0 p s).length : Int) = 0) (hq : GoI p most (left.toNat - 1) s E k) (hk : ¬ (k : Int) < (u0 p s).length) : true = (p3 p most left.toNat s E).2 := by
  rw [nO h h0,qet hq hk,hq.b]
theorem mI {w mem inn mo : Int} {code : List V.Ins} {T : Nat} {a b : List V.Path} (h : a = b) : [Blk.box [.dat (.i w),.dat (.i mem),.dat (.i inn),.dat (.seq .inss code),.dat (.i mo),.dat (.i (-1)),.row (0 + 1)],Blk.row T K.paths a false] = [Blk.box [.dat (.i w),.dat (.i mem),.dat (.i inn),.dat (.seq .inss code),.dat (.i mo),.dat (.i (-1)),.row 1],Blk.row T K.paths b false] := by rw [h]
theorem wH (h : PX p s) (hk : (k : Int) < (u0 p s).length) : PX p ((u0 p s).getD (k : Int).toNat K.paths.dflt) := by rw [Int.toNat_natCast];exact h.step _ (rF omG)
end
theorem s_go0 (w mem inn : Int) (code : List V.Ins) (most : Int) (n : Nat) (pc : Int) (rg mm : List V.Term) (sk : List Int) (ic : Int) (ot : List V.Term) (cd sp : Int) (cn : List V.Term) (tr : List Int) (E : List V.Path) (left : Int) (ih : IHgo w mem inn code most n) (hm : most <= 64) (hs : left.toNat < n + 1) (h4 : left <= 400) (hx : PX ⟨w,mem,inn,code⟩ ⟨pc,rg,mm,sk,ic,ot,cd,sp,cn,tr⟩) (hE : (E.length : Int) <= most) : CallsG Tryz.prog 84 [.ptr 0 0,.agg [.dat (.i pc),.dat (.seq .terms rg),.dat (.seq .terms mm),.dat (.seq .ints sk),.dat (.i ic),.dat (.seq .terms ot),.dat (.i cd),.dat (.i sp),.dat (.seq .terms cn),.dat (.seq .ints tr)],.dat (.i left)] [.box [.dat (.i w),.dat (.i mem),.dat (.i inn),.dat (.seq .inss code),.dat (.i most),.dat (.i (-1)),.row 1],.row 36 .paths E false] 1 (fun res B=>res = .dat (.bool (p3 ⟨w,mem,inn,code⟩ most left.toNat ⟨pc,rg,mm,sk,ic,ot,cd,sp,cn,tr⟩ E).2) /\ B = [.box [.dat (.i w),.dat (.i mem),.dat (.i inn),.dat (.seq .inss code),.dat (.i most),.dat (.i (-1)),.row 1],.row 36 .paths (p3 ⟨w,mem,inn,code⟩ most left.toNat ⟨pc,rg,mm,sk,ic,ot,cd,sp,cn,tr⟩ E).1 false]) := by
  refine oG Tryz.func84 ⟨?_⟩
  repeat' (first|((with_reducible refine fun (K1 : KT) hK=>?_);refine r3 ⟨?_⟩)|((with_reducible show K1 _ _);subst hK;conv=>whnf)|(with_reducible exact rfl)|refine y7 ⟨?_⟩|refine st0 ⟨?_⟩|((with_reducible refine SplS.mk (fun h=>?_) (fun h=>?_)) <;> first|exact u5|(subst h;conv=>whnf)|(conv=>whnf))|refine f2 ⟨?_⟩ ⟨?_⟩|(refine y5 ({k : Nat // GoI ⟨w,mem,inn,code⟩ most (left.toNat - 1) ⟨pc,rg,mm,sk,ic,ot,cd,sp,cn,tr⟩ E k}) (fun ⟨k,hq⟩=>x5 Tryz.f84.ntmps [(0,.ptr 900000 0),(2,.dat (.i left)),(7,.dat (.seq .paths (u0 ⟨w,mem,inn,code⟩ ⟨pc,rg,mm,sk,ic,ot,cd,sp,cn,tr⟩))),(44,.dat (.seq .paths (u0 ⟨w,mem,inn,code⟩ ⟨pc,rg,mm,sk,ic,ot,cd,sp,cn,tr⟩))),(45,.dat (.i (u0 ⟨w,mem,inn,code⟩ ⟨pc,rg,mm,sk,ic,ot,cd,sp,cn,tr⟩).length)),(46,.dat (.i k))] [(900000,.box [.dat (.i w),.dat (.i mem),.dat (.i inn),.dat (.seq .inss code),.dat (.i most),.dat (.i (-1)),.row 5]),(5,.row 36 .paths (m5 (p3 ⟨w,mem,inn,code⟩ most (left.toNat - 1)) (u0 ⟨w,mem,inn,code⟩ ⟨pc,rg,mm,sk,ic,ot,cd,sp,cn,tr⟩) E k).1 false)]) (fun ⟨k,hq⟩=>(u0 ⟨w,mem,inn,code⟩ ⟨pc,rg,mm,sk,ic,ot,cd,sp,cn,tr⟩).length - k) ⟨0, ?_⟩ (SubP.sub (σ := [(900000,some 900000),(5,some 900001)]) ⟨⟨rfl,rfl,rfl⟩,⟨rr,o0 ?_,o0 ?_,o0 ?_,o0 ?_,o0 ?_,trivial⟩,⟨⟨j0 ?_,j0 ?_,j0 ?_,j0 ?_,j0 ?_,j0 ?_,rfl,trivial⟩,⟨rr, ?_⟩,trivial⟩⟩) (fun ⟨k,hq⟩=>?_);rotate_right;conv=>whnf)|(refine b6 (⟨k + 1, ?_⟩ : {k : Nat // GoI ⟨w,mem,inn,code⟩ most (left.toNat - 1) ⟨pc,rg,mm,sk,ic,ot,cd,sp,cn,tr⟩ E k}) ?_ (SubP.sub (σ := [(900000,some 900000),(5,some 80001)]) ⟨⟨rfl,rfl,rfl⟩,⟨rr,o0 ?_,o0 ?_,o0 ?_,o0 ?_,o0 ?_,trivial⟩,⟨⟨j0 ?_,j0 ?_,j0 ?_,j0 ?_,j0 ?_,j0 ?_,rfl,trivial⟩,⟨rr, ?_⟩,trivial⟩⟩))|refine vE (qa9 (hP := ?_) ..) ⟨?_⟩|refine gS (ih_go (ih := by assumption) (hs := ?_) (hx := ?_) (hE := ?_) ..) ⟨?_⟩|(intro h;conv=>whnf))
  all_goals repeat clear hK K1
  all_goals (try simp only [uD] at *)
  all_goals first|(with_reducible assumption)|exact hx.i|exact gi_0 hE|((with_reducible show PX _ _);exact wH hx asmR)|exact hq.ln|(rw [xL asmR h4];omega)|((with_reducible show GoI _ _ _ _ _ _);exact gx_s asmR h4 hq asmR asmR)|exact congrArg (Sigma.mk K.paths) (gx_k asmR h4 hq)|exact congrArg (Dat.int .i64) (wrap_succ asmR asmR).symm|((with_reducible show @Eq (List Blk) _ _);first|exact mI (gx_0 asmR)|exact mI (gx_1 asmR)|exact mI (gx_n asmR h4 asmR hq asmR asmR)|exact mI (gx_e asmR asmR hq asmR))|((with_reducible show @Eq AV _ _);first|exact congrArg (fun b=>AV.dat (Dat.bool b)) (gx_n2 asmR h4 asmR hq asmR asmR)|exact congrArg (fun b=>AV.dat (Dat.bool b)) (gx_e2 asmR asmR hq asmR)|exact congrArg (fun b=>AV.dat (Dat.bool b)) (go_b.trans (congrArg Prod.snd (pO asmR)).symm)|exact congrArg (fun b=>AV.dat (Dat.bool b)) (go_b.trans (congrArg Prod.snd (oO asmR)).symm))|((with_reducible show (_ : Nat) <= maxLen);first|(show 1 <= 2 ^ 63 - 1;decide)|(show _ + 1 <= 2 ^ 63 - 1;omega))|((with_reducible show _ * _ <= _);first|(show 1 * _ <= _;decide)|exact Nat.le_trans (Nat.mul_le_mul_right _ (show _ + 1 <= 65 by omega)) (by decide))|exact congrArg (Dat.int .i64) (wrap_succ asmR asmR).symm|((with_reducible show (_ : Int) <= _);omega)|((with_reducible show (_ : Nat) < _);((try dsimp only);omega))|exact rfl|skip
theorem qbd (w mem inn : Int) (code : List V.Ins) (most : Int) (hm : most <= 64) : ∀ n : Nat,n <= 401 -> IHgo w mem inn code most n
  | 0,_=>⟨fun _ _ _ _ _ _ _ _ _ _ _ _ h=>absurd h (Nat.not_lt_zero _)⟩
  | n + 1,hn=>⟨fun pc rg mm sk ic ot cd sp cn tr E left hs hx hE=>s_go0 w mem inn code most n pc rg mm sk ic ot cd sp cn tr E left (qbd w mem inn code most hm n omG) hm hs omG hx hE⟩
theorem s_goN0 (w mem inn : Int) (code : List V.Ins) (most : Int) (n : Nat) (pc : Int) (rg mm : List V.Term) (sk : List Int) (ic : Int) (ot : List V.Term) (cd sp : Int) (cn : List V.Term) (tr : List Int) (left : Int) (ih : IHgo w mem inn code most n) (_hm : most <= 64) (hs : left.toNat < n + 1) (h4 : left <= 400) (hx : PX ⟨w,mem,inn,code⟩ ⟨pc,rg,mm,sk,ic,ot,cd,sp,cn,tr⟩) (hE : 0 <= most) : CallsG Tryz.prog 84 [.ptr 0 0,.agg [.dat (.i pc),.dat (.seq .terms rg),.dat (.seq .terms mm),.dat (.seq .ints sk),.dat (.i ic),.dat (.seq .terms ot),.dat (.i cd),.dat (.i sp),.dat (.seq .terms cn),.dat (.seq .ints tr)],.dat (.i left)] [.box [.dat (.i w),.dat (.i mem),.dat (.i inn),.dat (.seq .inss code),.dat (.i most),.dat (.i (-1)),.nils]] 1 (fun res B=>res = .dat (.bool (p3 ⟨w,mem,inn,code⟩ most left.toNat ⟨pc,rg,mm,sk,ic,ot,cd,sp,cn,tr⟩ ([] : List V.Path)).2) /\ B = [.box [.dat (.i w),.dat (.i mem),.dat (.i inn),.dat (.seq .inss code),.dat (.i most),.dat (.i (-1)),.row 1],.row 36 .paths (p3 ⟨w,mem,inn,code⟩ most left.toNat ⟨pc,rg,mm,sk,ic,ot,cd,sp,cn,tr⟩ ([] : List V.Path)).1 false]) := by
  refine oG Tryz.func84 ⟨?_⟩
  repeat' (first|((with_reducible refine fun (K1 : KT) hK=>?_);refine r3 ⟨?_⟩)|((with_reducible show K1 _ _);subst hK;conv=>whnf)|(with_reducible exact rfl)|refine y7 ⟨?_⟩|refine st0 ⟨?_⟩|((with_reducible refine SplS.mk (fun h=>?_) (fun h=>?_)) <;> first|exact u5|(subst h;conv=>whnf)|(conv=>whnf))|refine f2 ⟨?_⟩ ⟨?_⟩|(refine y5 ({k : Nat // GoI ⟨w,mem,inn,code⟩ most (left.toNat - 1) ⟨pc,rg,mm,sk,ic,ot,cd,sp,cn,tr⟩ ([] : List V.Path) k}) (fun ⟨k,hq⟩=>x5 Tryz.f84.ntmps [(0,.ptr 900000 0),(2,.dat (.i left)),(7,.dat (.seq .paths (u0 ⟨w,mem,inn,code⟩ ⟨pc,rg,mm,sk,ic,ot,cd,sp,cn,tr⟩))),(44,.dat (.seq .paths (u0 ⟨w,mem,inn,code⟩ ⟨pc,rg,mm,sk,ic,ot,cd,sp,cn,tr⟩))),(45,.dat (.i (u0 ⟨w,mem,inn,code⟩ ⟨pc,rg,mm,sk,ic,ot,cd,sp,cn,tr⟩).length)),(46,.dat (.i k))] [(900000,.box [.dat (.i w),.dat (.i mem),.dat (.i inn),.dat (.seq .inss code),.dat (.i most),.dat (.i (-1)),.row 5]),(5,.row 36 .paths (m5 (p3 ⟨w,mem,inn,code⟩ most (left.toNat - 1)) (u0 ⟨w,mem,inn,code⟩ ⟨pc,rg,mm,sk,ic,ot,cd,sp,cn,tr⟩) ([] : List V.Path) k).1 false)]) (fun ⟨k,hq⟩=>(u0 ⟨w,mem,inn,code⟩ ⟨pc,rg,mm,sk,ic,ot,cd,sp,cn,tr⟩).length - k) ⟨0, ?_⟩ (SubP.sub (σ := [(900000,some 900000),(5,none)]) ⟨⟨rfl,rfl,rfl⟩,⟨rr,o0 ?_,o0 ?_,o0 ?_,o0 ?_,o0 ?_,trivial⟩,⟨⟨j0 ?_,j0 ?_,j0 ?_,j0 ?_,j0 ?_,j0 ?_,rfl,trivial⟩, ?_,trivial⟩⟩) (fun ⟨k,hq⟩=>?_);rotate_right;conv=>whnf)|(refine b6 (⟨k + 1, ?_⟩ : {k : Nat // GoI ⟨w,mem,inn,code⟩ most (left.toNat - 1) ⟨pc,rg,mm,sk,ic,ot,cd,sp,cn,tr⟩ ([] : List V.Path) k}) ?_ (SubP.sub (σ := [(900000,some 900000),(5,some 80001)]) ⟨⟨rfl,rfl,rfl⟩,⟨rr,o0 ?_,o0 ?_,o0 ?_,o0 ?_,o0 ?_,trivial⟩,⟨⟨j0 ?_,j0 ?_,j0 ?_,j0 ?_,j0 ?_,j0 ?_,rfl,trivial⟩,⟨rr, ?_⟩,trivial⟩⟩))|refine vE (qa9 (hP := ?_) ..) ⟨?_⟩|refine gS (ih_go (ih := by assumption) (hs := ?_) (hx := ?_) (hE := ?_) ..) ⟨?_⟩|(intro h;conv=>whnf))
  all_goals repeat clear hK K1
  all_goals (try simp only [uD] at *)
  all_goals first|(with_reducible assumption)|exact hx.i|exact gi_0 (E := []) hE|((with_reducible show PX _ _);exact wH hx asmR)|exact hq.ln|(rw [xL asmR h4];omega)|((with_reducible show GoI _ _ _ _ _ _);exact gx_s asmR h4 hq asmR asmR)|exact congrArg (Sigma.mk K.paths) (gx_k asmR h4 hq)|exact congrArg (Dat.int .i64) (wrap_succ asmR asmR).symm|((with_reducible show @Eq (List Blk) _ _);first|exact mI (gx_0 asmR)|exact mI (gx_1 asmR)|exact mI (gx_n asmR h4 asmR hq asmR asmR)|exact mI (gx_e asmR asmR hq asmR))|((with_reducible show @Eq AV _ _);first|exact congrArg (fun b=>AV.dat (Dat.bool b)) (gx_n2 asmR h4 asmR hq asmR asmR)|exact congrArg (fun b=>AV.dat (Dat.bool b)) (gx_e2 asmR asmR hq asmR)|exact congrArg (fun b=>AV.dat (Dat.bool b)) (go_b.trans (congrArg Prod.snd (pO asmR)).symm)|exact congrArg (fun b=>AV.dat (Dat.bool b)) (go_b.trans (congrArg Prod.snd (oO asmR)).symm))|((with_reducible show (_ : Nat) <= maxLen);first|(show 1 <= 2 ^ 63 - 1;decide)|(show _ + 1 <= 2 ^ 63 - 1;omega))|((with_reducible show _ * _ <= _);first|(show 1 * _ <= _;decide)|exact Nat.le_trans (Nat.mul_le_mul_right _ (show _ + 1 <= 65 by omega)) (by decide))|(rw [pO asmR];first|exact congrArg (fun b=>AV.dat (Dat.bool b)) go_b|exact congrArg (fun b=>AV.dat (Dat.bool b)) go_b.symm|exact rfl)|(rw [oO asmR];first|exact congrArg (fun b=>AV.dat (Dat.bool b)) go_b|exact congrArg (fun b=>AV.dat (Dat.bool b)) go_b.symm|exact rfl)|exact congrArg (Dat.int .i64) (wrap_succ asmR asmR).symm|((with_reducible show (_ : Int) <= _);omega)|((with_reducible show (_ : Nat) < _);((try dsimp only);omega))|exact rfl|skip
theorem s_goN (w mem inn : Int) (code : List V.Ins) (most : Int) (pc : Int) (rg mm : List V.Term) (sk : List Int) (ic : Int) (ot : List V.Term) (cd sp : Int) (cn : List V.Term) (tr : List Int) (left : Int) (hm : most <= 64) (h1 : 0 <= most) (h0 : 0 <= left) (h4 : left <= 400) (hx : PX ⟨w,mem,inn,code⟩ ⟨pc,rg,mm,sk,ic,ot,cd,sp,cn,tr⟩) : CallsG Tryz.prog 84 [.ptr 0 0,.agg [.dat (.i pc),.dat (.seq .terms rg),.dat (.seq .terms mm),.dat (.seq .ints sk),.dat (.i ic),.dat (.seq .terms ot),.dat (.i cd),.dat (.i sp),.dat (.seq .terms cn),.dat (.seq .ints tr)],.dat (.i left)] [.box [.dat (.i w),.dat (.i mem),.dat (.i inn),.dat (.seq .inss code),.dat (.i most),.dat (.i (-1)),.nils]] 1 (fun res B=>res = .dat (.bool (p3 ⟨w,mem,inn,code⟩ most left.toNat ⟨pc,rg,mm,sk,ic,ot,cd,sp,cn,tr⟩ []).2) /\ B = [.box [.dat (.i w),.dat (.i mem),.dat (.i inn),.dat (.seq .inss code),.dat (.i most),.dat (.i (-1)),.row 1],.row 36 .paths (p3 ⟨w,mem,inn,code⟩ most left.toNat ⟨pc,rg,mm,sk,ic,ot,cd,sp,cn,tr⟩ []).1 false]) := s_goN0 w mem inn code most left.toNat pc rg mm sk ic ot cd sp cn tr left (qbd w mem inn code most hm left.toNat omG) hm omG h4 hx h1
noncomputable def exP (p : V.Prog) (most : Int) (f : Nat) : List V.Path := if (p3 p most f (s7 p) []).2 = true then (p3 p most f (s7 p) []).1 else []
theorem ex_y {p : V.Prog} {most : Int} {f : Nat} (h : (p3 p most f (s7 p) []).2 = true) : exP p most f = (p3 p most f (s7 p) []).1 := if_pos h
theorem aP {p : V.Prog} {most : Int} {f : Nat} (h : (p3 p most f (s7 p) []).2 = false) : exP p most f = [] := if_neg (by rw [h];exact Bool.false_ne_true)
theorem ex_l {p : V.Prog} {most : Int} {f : Nat} (h : (p3 p most f (s7 p) []).2 = true) : exP p most f = k9 p f (s7 p) := (ex_y h).trans ((cX h).trans (List.nil_append _))
theorem ex_b {p : V.Prog} {most : Int} {f : Nat} (h0 : 0 <= most) : ((exP p most f).length : Int) <= most := by
  cases h : (p3 p most f (s7 p) []).2 with
  | true=>rw [ex_y h];exact wL h0 h
  | false=>rw [aP h];exact h0
theorem qi1 (w mem inn : Int) (code : List V.Ins) (fuel most : Int) (hp : i4 ⟨w,mem,inn,code⟩ = true) (hf : 0 <= fuel) (hf2 : fuel <= 400) (hm : 1 <= most) (hm2 : most <= 64) : CallsV Tryz.prog 44 [.agg [.dat (.i w),.dat (.i mem),.dat (.i inn),.dat (.seq .inss code)],.dat (.i fuel),.dat (.i most),.dat (.i (-1))] (.tup [.dat (.seq .paths (exP ⟨w,mem,inn,code⟩ most fuel.toNat)),.dat (.bool (p3 ⟨w,mem,inn,code⟩ most fuel.toNat (s7 ⟨w,mem,inn,code⟩) []).2)]) := by
  refine oV Tryz.func44 ⟨?_⟩
  repeat' (first|((with_reducible refine fun (K1 : KT) hK=>?_);refine r3 ⟨?_⟩)|((with_reducible show K1 _ _);subst hK;conv=>whnf)|refine st0 ⟨?_⟩|((with_reducible refine SplS.mk (fun h=>?_) (fun h=>?_)) <;> first|exact yC|(conv=>whnf))|refine f2 ⟨?_⟩ ⟨?_⟩|refine vP (kN ..) ⟨?_⟩|refine vP (zA ..) ⟨?_⟩|refine vP (qjm (hp := ?_) ..) ⟨?_⟩|refine gS (s_goN (hm := ?_) (h1 := ?_) (h0 := ?_) (h4 := ?_) (hx := ?_) ..) ⟨?_⟩|fail)
  all_goals repeat clear hK K1
  all_goals (try simp only [uD] at *)
  all_goals first|(with_reducible assumption)|exact mP hp|exact wB (k6.2 ⟨hf,hf2⟩) asmR|exact wB (k6.2 ⟨hm,hm2⟩) asmR|((with_reducible show frzM _ _ _);first|exact frB rfl|exact frB asmR|(rw [ex_y asmR];exact rfl)|(rw [aP asmR];exact rfl))|((with_reducible show (_ : Int) <= _);omega)|skip
theorem qjw (w mem inn : Int) (code : List V.Ins) (fuel most : Int) (hp : i4 ⟨w,mem,inn,code⟩ = true) (hf : 0 <= fuel) (hf2 : fuel <= 400) (hm : 1 <= most) (hm2 : most <= 64) : CallsV Tryz.prog 16 [.agg [.dat (.i w),.dat (.i mem),.dat (.i inn),.dat (.seq .inss code)],.dat (.i fuel),.dat (.i most)] (.tup [.dat (.seq .paths (exP ⟨w,mem,inn,code⟩ most fuel.toNat)),.dat (.bool (p3 ⟨w,mem,inn,code⟩ most fuel.toNat (s7 ⟨w,mem,inn,code⟩) []).2)]) := by
  refine oV Tryz.func16 ⟨?_⟩
  repeat' (first|((with_reducible refine fun (K1 : KT) hK=>?_);refine r3 ⟨?_⟩)|((with_reducible show K1 _ _);subst hK;conv=>whnf)|refine st0 ⟨?_⟩|refine f2 ⟨?_⟩ ⟨?_⟩|refine vP (qi1 (hp := ?_) (hf := ?_) (hf2 := ?_) (hm := ?_) (hm2 := ?_) ..) ⟨?_⟩|fail)
  all_goals repeat clear hK K1
  all_goals first|(with_reducible assumption)|((with_reducible show frzM _ _ _);first|exact frB rfl|exact frB asmR|(rw [aP asmR];exact rfl))|exact rfl|exact trivial|skip
def qgo : List Oper -> Bool
  | []=>false
  | o :: l=>(match o.op with
    | .call { callee := .value (.tmp _),args := _,argTypes := _ }=>true
    | _=>false) || qgo l
theorem qhi {P : Program} {τ : Tys} {ops : Array Oper} {S : AState} {K : AState -> Prop} {A : Prop} (_ : qgo (ops.toList.take (preLen ops.toList)) = true)
    (h : match tG ops.toList 0 && kF ops.toList with
      | true=>eK ops.toList 0 [] [] fun L=>jH τ ops L L [] fun E=>sF (f7 E) fun R=>WRun P τ ops R true 0 0 E S fun S=>WR P τ ops E R E.length 0 S K
      | false=>False) : Alt A (uG P τ ops S K) := by
  refine .r ?_
  unfold uG
  simp only [lP,jT] at h
  exact h
theorem qma (n : Int) : CallsV Tryz.prog 51 [.dat (.i n)] (.dat (.bool (inP n 1 64))) := by
  refine oV Tryz.func51 ⟨?_⟩
  repeat' (first|((with_reducible refine fun (K1 : KT) hK=>?_);refine r3 ⟨?_⟩)|((with_reducible show K1 _ _);subst hK;conv=>whnf)|refine st0 ⟨?_⟩|((with_reducible refine SplS.mk (fun h=>?_) (fun h=>?_)) <;> first|exact o4|(subst h;conv=>whnf)|(conv=>whnf)))
  all_goals repeat clear hK K1
  all_goals first|(refine congrArg Dat.bool ?_;unfold inP;simp [*];done)|(refine congrArg Dat.bool ?_;unfold inP;rw [Bool.eq_iff_iff];simp;omega)|skip
theorem ql7 (w mem inn : Int) (code : List V.Ins) (pc : Int) (rg mm : List V.Term) (sk : List Int) (ic : Int) (ot : List V.Term) (cd sp : Int) (cn : List V.Term) (tr : List Int) (hx : PX ⟨w,mem,inn,code⟩ ⟨pc,rg,mm,sk,ic,ot,cd,sp,cn,tr⟩) : CallsV Tryz.prog 82 [.agg [.dat (.i w),.dat (.i mem),.dat (.i inn),.dat (.seq .inss code)],.agg [.dat (.i pc),.dat (.seq .terms rg),.dat (.seq .terms mm),.dat (.seq .ints sk),.dat (.i ic),.dat (.seq .terms ot),.dat (.i cd),.dat (.i sp),.dat (.seq .terms cn),.dat (.seq .ints tr)]] (.tup [.dat (.seq .paths (u0 ⟨w,mem,inn,code⟩ ⟨pc,rg,mm,sk,ic,ot,cd,sp,cn,tr⟩)),.dat (.bool (decide (((u0 ⟨w,mem,inn,code⟩ ⟨pc,rg,mm,sk,ic,ot,cd,sp,cn,tr⟩).length : Int) > 0)))]) := by
  refine oV Tryz.func82 ⟨?_⟩
  repeat' (first|((with_reducible refine fun (K1 : KT) hK=>?_);refine r3 ⟨?_⟩)|((with_reducible show K1 _ _);subst hK;conv=>whnf)|refine st0 ⟨?_⟩|refine f2 ⟨?_⟩ ⟨?_⟩|refine vP (qlu (hP := ?_) ..) ⟨?_⟩|(intro h;conv=>whnf))
  all_goals repeat clear hK K1
  all_goals first|exact True.intro|exact hx.i|((with_reducible show frzM _ _ _);first|exact frB rfl|exact frB asmR)|exact rfl|skip
theorem qef (w mem inn : Int) (code : List V.Ins) (pc : Int) (rg mm : List V.Term) (sk : List Int) (ic : Int) (ot : List V.Term) (cd sp : Int) (cn : List V.Term) (tr : List Int) (left : Int) (hx : PX ⟨w,mem,inn,code⟩ ⟨pc,rg,mm,sk,ic,ot,cd,sp,cn,tr⟩) : CallsV Tryz.prog 81 [.agg [.dat (.i pc),.dat (.seq .terms rg),.dat (.seq .terms mm),.dat (.seq .ints sk),.dat (.i ic),.dat (.seq .terms ot),.dat (.i cd),.dat (.i sp),.dat (.seq .terms cn),.dat (.seq .ints tr)],.dat (.i left),.eptr .progs ⟨w,mem,inn,code⟩ 0] (.tup [.dat (.seq .paths (u0 ⟨w,mem,inn,code⟩ ⟨pc,rg,mm,sk,ic,ot,cd,sp,cn,tr⟩)),.dat (.bool (decide (((u0 ⟨w,mem,inn,code⟩ ⟨pc,rg,mm,sk,ic,ot,cd,sp,cn,tr⟩).length : Int) > 0)))]) := by
  refine oV Tryz.func81 ⟨?_⟩
  repeat' (first|((with_reducible refine fun (K1 : KT) hK=>?_);refine r3 ⟨?_⟩)|((with_reducible show K1 _ _);subst hK;conv=>whnf)|refine st0 ⟨?_⟩|refine f2 ⟨?_⟩ ⟨?_⟩|refine vP (ql7 (hx := ?_) ..) ⟨?_⟩|fail)
  all_goals repeat clear hK K1
  all_goals first|exact True.intro|(with_reducible assumption)|((with_reducible show frzM _ _ _);first|exact frB rfl|exact frB asmR)|exact rfl|skip
section
variable {p : V.Prog} {s t : V.Path} {E : List V.Path} {most left : Int} {k f : Nat}
theorem tk_y (h : ¬ t.code = 2) (h0 : 0 <= s.steps) (h1 : s.steps <= 400) (h2 : 0 <= t.steps) (h3 : t.steps <= 400) : IntKind.i64.wrap (t.steps - s.steps) = mC s t := by
  unfold mC;rw [if_neg h,j3 omG omG]
theorem tk_e (h : t.code = 2) (h0 : 0 <= s.steps) (h1 : s.steps <= 400) (h2 : 0 <= t.steps) (h3 : t.steps <= 400) : IntKind.i64.wrap (IntKind.i64.wrap (t.steps - s.steps) + 1) = mC s t := by
  unfold mC;rw [if_pos h,j3 (n := t.steps - s.steps) omG omG,j3 omG omG]
end
theorem qd9 (pc : Int) (rg mm : List V.Term) (sk : List Int) (ic : Int) (ot : List V.Term) (cd sp : Int) (cn : List V.Term) (tr : List Int) (pc' : Int) (rg' mm' : List V.Term) (sk' : List Int) (ic' : Int) (ot' : List V.Term) (cd' sp' : Int) (cn' : List V.Term) (tr' : List Int) (h0 : 0 <= sp) (h1 : sp <= 400) (h2 : 0 <= sp') (h3 : sp' <= 400) : CallsV Tryz.prog 116 [.agg [.dat (.i pc),.dat (.seq .terms rg),.dat (.seq .terms mm),.dat (.seq .ints sk),.dat (.i ic),.dat (.seq .terms ot),.dat (.i cd),.dat (.i sp),.dat (.seq .terms cn),.dat (.seq .ints tr)],.agg [.dat (.i pc'),.dat (.seq .terms rg'),.dat (.seq .terms mm'),.dat (.seq .ints sk'),.dat (.i ic'),.dat (.seq .terms ot'),.dat (.i cd'),.dat (.i sp'),.dat (.seq .terms cn'),.dat (.seq .ints tr')]] (.dat (.i (mC ⟨pc,rg,mm,sk,ic,ot,cd,sp,cn,tr⟩ ⟨pc',rg',mm',sk',ic',ot',cd',sp',cn',tr'⟩))) := by
  refine oV Tryz.func116 ⟨?_⟩
  repeat' (first|((with_reducible refine fun (K1 : KT) hK=>?_);refine r3 ⟨?_⟩)|((with_reducible show K1 _ _);subst hK;conv=>whnf)|refine st0 ⟨?_⟩|((with_reducible refine SplS.mk (fun h=>?_) (fun h=>?_)) <;> first|exact o4|(subst h;conv=>whnf)|(conv=>whnf)))
  all_goals repeat clear hK K1
  all_goals first|exact congrArg (Dat.int .i64) (tk_y (s := ⟨pc,rg,mm,sk,ic,ot,cd,sp,cn,tr⟩) (t := ⟨pc',rg',mm',sk',ic',ot',cd',sp',cn',tr'⟩) asmR h0 h1 h2 h3).symm|exact congrArg (Dat.int .i64) (tk_e (s := ⟨pc,rg,mm,sk,ic,ot,cd,sp,cn,tr⟩) (t := ⟨pc',rg',mm',sk',ic',ot',2,sp',cn',tr'⟩) rfl h0 h1 h2 h3).symm|skip
noncomputable def pA (p : V.Prog) (most : Int) (f : Nat) (s : V.Path) (E : List V.Path) (bad : Bool) : List V.Path × Bool := if bad = true then (E,true) else ((p3 p most f s E).1,!(p3 p most f s E).2)
section
variable {p : V.Prog} {s : V.Path} {E : List V.Path} {most left : Int} {k f : Nat}
theorem eX {g : V.Path -> List V.Path -> List V.Path × Bool} (h1 : ∀ s E,(E.length : Int) <= most -> ((g s E).1.length : Int) <= most + 1) (h2 : ∀ s E,(E.length : Int) <= most -> (g s E).2 = true -> ((g s E).1.length : Int) <= most) {l E : List V.Path} (hE : (E.length : Int) <= most) :
    ∀ {k : Nat},((m5 g l E k).1.length : Int) <= most + 1
  | 0=>by rw [m5];show (E.length : Int) <= _;omega
  | k + 1=>by
    rw [m5]
    split
    . rename_i c;exact h1 _ _ (goL_b h2 hE c)
    . exact eX h1 h2 hE
theorem dX : ∀ {f : Nat} {s : V.Path} {E : List V.Path},(E.length : Int) <= most -> ((p3 p most f s E).1.length : Int) <= most + 1
  | 0,s,E,h=>by rw [p3];show ((E ++ [s]).length : Int) <= _;rw [List.length_append,List.length_singleton];omega
  | f + 1,s,E,h=>by
    rw [p3]
    split
    . show ((E ++ [s]).length : Int) <= _;rw [List.length_append,List.length_singleton];omega
    . exact eX (fun s E hb=>dX hb) (fun s E hb ht=>wL hb ht) h
structure GvI (p : V.Prog) (most : Int) (f : Nat) (s : V.Path) (E : List V.Path) (k : Nat) : Prop where
  kl : k <= (u0 p s).length
  l1 : ((m5 (p3 p most f) (u0 p s) E k).1.length : Int) <= most + 1
  b : (!(m5 (p3 p most f) (u0 p s) E k).2) = false -> ((m5 (p3 p most f) (u0 p s) E k).1.length : Int) <= most
theorem gv_i (hE : (E.length : Int) <= most) (hk : k <= (u0 p s).length) : GvI p most f s E k :=
  ⟨hk,eX (fun s E hb=>dX hb) (fun s E hb ht=>wL hb ht) hE,fun h=>goL_b (fun s E hb ht=>wL hb ht) hE (by simpa using h)⟩
theorem tL : pA p most f s E false = ((p3 p most f s E).1,!(p3 p most f s E).2) := rfl
theorem gv_t : pA p most f s E true = (E,true) := rfl
theorem tk_w (hl : left > 0) (h4 : left <= 400) (hk : (k : Int) < (u0 p s).length) : (IntKind.i64.wrap (left - mC s ((u0 p s).getD (k : Int).toNat K.paths.dflt))).toNat = left.toNat - 1 := by
  rw [Int.toNat_natCast,qai (rF omG),j3 omG omG];omega
theorem tk_4 (hl : left > 0) (h4 : left <= 400) (hk : (k : Int) < (u0 p s).length) : IntKind.i64.wrap (left - mC s ((u0 p s).getD (k : Int).toNat K.paths.dflt)) <= 400 := by
  rw [Int.toNat_natCast,qai (rF omG),j3 omG omG];omega
theorem gv_s (hl : left > 0) (h4 : left <= 400) (hk : (k : Int) < (u0 p s).length) :
    pA p most (IntKind.i64.wrap (left - mC s ((u0 p s).getD (k : Int).toNat K.paths.dflt))).toNat ((u0 p s).getD (k : Int).toNat K.paths.dflt) (m5 (p3 p most (left.toNat - 1)) (u0 p s) E k).1 (!(m5 (p3 p most (left.toNat - 1)) (u0 p s) E k).2) =
      ((m5 (p3 p most (left.toNat - 1)) (u0 p s) E (k + 1)).1,!(m5 (p3 p most (left.toNat - 1)) (u0 p s) E (k + 1)).2) := by
  rw [tk_w hl h4 hk,Int.toNat_natCast]
  rw [m5]
  cases c : (m5 (p3 p most (left.toNat - 1)) (u0 p s) E k).2 with
  | true=>rw [if_pos rfl];exact tL
  | false=>rw [if_neg Bool.false_ne_true,c];exact gv_t
theorem gv_s1 (hl : left > 0) (h4 : left <= 400) (hk : (k : Int) < (u0 p s).length) : (m5 (p3 p most (left.toNat - 1)) (u0 p s) E (k + 1)).1 =
    (pA p most (IntKind.i64.wrap (left - mC s ((u0 p s).getD (k : Int).toNat K.paths.dflt))).toNat ((u0 p s).getD (k : Int).toNat K.paths.dflt) (m5 (p3 p most (left.toNat - 1)) (u0 p s) E k).1 (!(m5 (p3 p most (left.toNat - 1)) (u0 p s) E k).2)).1 := by rw [gv_s hl h4 hk]
theorem gv_s2 (hl : left > 0) (h4 : left <= 400) (hk : (k : Int) < (u0 p s).length) : (!(m5 (p3 p most (left.toNat - 1)) (u0 p s) E (k + 1)).2) =
    (pA p most (IntKind.i64.wrap (left - mC s ((u0 p s).getD (k : Int).toNat K.paths.dflt))).toNat ((u0 p s).getD (k : Int).toNat K.paths.dflt) (m5 (p3 p most (left.toNat - 1)) (u0 p s) E k).1 (!(m5 (p3 p most (left.toNat - 1)) (u0 p s) E k).2)).2 := by rw [gv_s hl h4 hk]
theorem gv_e (h : ¬ left > 0 \/ ¬ ((u0 p s).length : Int) > 0) : p3 p most left.toNat s E = (E ++ [s],decide ((E.length : Int) + 1 <= most)) := by
  rcases h with h|h
  . exact pO h
  . exact oO omG
theorem eE (h : ¬ left > 0 \/ ¬ ((u0 p s).length : Int) > 0) : E ++ [s] = (pA p most left.toNat s E false).1 := by rw [tL,gv_e h]
theorem uL (h : ¬ left > 0 \/ ¬ ((u0 p s).length : Int) > 0) (h2 : ((E ++ [s]).length : Int) > most) : true = (pA p most left.toNat s E false).2 := by
  rw [tL,gv_e h];rw [bX] at h2;exact (congrArg not (decide_eq_false omG)).symm
theorem vL (h : ¬ left > 0 \/ ¬ ((u0 p s).length : Int) > 0) (h2 : ¬ ((E ++ [s]).length : Int) > most) : false = (pA p most left.toNat s E false).2 := by
  rw [tL,gv_e h];rw [bX] at h2;exact (congrArg not (decide_eq_true omG)).symm
theorem gv_k (hl : left > 0) (h0 : ((u0 p s).length : Int) > 0) (hq : k <= (u0 p s).length) (hk : ¬ (k : Int) < (u0 p s).length) : p3 p most left.toNat s E = m5 (p3 p most (left.toNat - 1)) (u0 p s) E k := by
  rw [nO hl omG,show (u0 p s).length = k by omega]
theorem gv_k1 (hl : left > 0) (h0 : ((u0 p s).length : Int) > 0) (hq : GvI p most (left.toNat - 1) s E k) (hk : ¬ (k : Int) < (u0 p s).length) : (m5 (p3 p most (left.toNat - 1)) (u0 p s) E k).1 = (pA p most left.toNat s E false).1 := by rw [tL,gv_k hl h0 hq.kl hk]
theorem gv_k2 (hl : left > 0) (h0 : ((u0 p s).length : Int) > 0) (hq : GvI p most (left.toNat - 1) s E k) (hk : ¬ (k : Int) < (u0 p s).length) : (!(m5 (p3 p most (left.toNat - 1)) (u0 p s) E k).2) = (pA p most left.toNat s E false).2 := by rw [tL,gv_k hl h0 hq.kl hk]
theorem vC {mo : Int} {G : Nat} {cs : List CapD} {T : Nat} {a b : List V.Path} {x y : Bool} (h : a = b) (h2 : x = y) : [Blk.box [.dat (.i mo),.row (0 + 1),.dat (.bool x),.dat .nof,.dat (.clo G cs)],Blk.row T K.paths a false] = [Blk.box [.dat (.i mo),.row 1,.dat (.bool y),.dat .nof,.dat (.clo G cs)],Blk.row T K.paths b false] := by rw [h,h2]
end
structure IHvi (w mem inn : Int) (code : List V.Ins) (most : Int) (n : Nat) : Prop where
  call : ∀ (pc : Int) (rg mm : List V.Term) (sk : List Int) (ic : Int) (ot : List V.Term) (cd sp : Int) (cn : List V.Term) (tr : List Int) (E : List V.Path) (bad : Bool) (left : Int),left.toNat < n -> left <= 400 -> PX ⟨w,mem,inn,code⟩ ⟨pc,rg,mm,sk,ic,ot,cd,sp,cn,tr⟩ -> (E.length : Int) <= most + 1 -> (bad = false -> (E.length : Int) <= most) -> CallsG Tryz.prog 83 [.ptr 0 0,.agg [.dat (.i pc),.dat (.seq .terms rg),.dat (.seq .terms mm),.dat (.seq .ints sk),.dat (.i ic),.dat (.seq .terms ot),.dat (.i cd),.dat (.i sp),.dat (.seq .terms cn),.dat (.seq .ints tr)],.dat (.i left)] [.box [.dat (.i most),.row 1,.dat (.bool bad),.dat .nof,.dat (.clo 81 [.prog w mem inn code])],.row 36 .paths E false] 1 (fun res B=>res = .tup [] /\ B = [.box [.dat (.i most),.row 1,.dat (.bool (pA ⟨w,mem,inn,code⟩ most left.toNat ⟨pc,rg,mm,sk,ic,ot,cd,sp,cn,tr⟩ E bad).2),.dat .nof,.dat (.clo 81 [.prog w mem inn code])],.row 36 .paths (pA ⟨w,mem,inn,code⟩ most left.toNat ⟨pc,rg,mm,sk,ic,ot,cd,sp,cn,tr⟩ E bad).1 false])
theorem ih_vi {w mem inn : Int} {code : List V.Ins} {most : Int} {n : Nat} (ih : IHvi w mem inn code most n) {pc : Int} {rg mm : List V.Term} {sk : List Int} {ic : Int} {ot : List V.Term} {cd sp : Int} {cn : List V.Term} {tr : List Int} {E : List V.Path} {bad : Bool} {left : Int} (hs : left.toNat < n) (h4 : left <= 400) (hx : PX ⟨w,mem,inn,code⟩ ⟨pc,rg,mm,sk,ic,ot,cd,sp,cn,tr⟩) (hE : (E.length : Int) <= most + 1) (hb : bad = false -> (E.length : Int) <= most) : CallsG Tryz.prog 83 [.ptr 0 0,.agg [.dat (.i pc),.dat (.seq .terms rg),.dat (.seq .terms mm),.dat (.seq .ints sk),.dat (.i ic),.dat (.seq .terms ot),.dat (.i cd),.dat (.i sp),.dat (.seq .terms cn),.dat (.seq .ints tr)],.dat (.i left)] [.box [.dat (.i most),.row 1,.dat (.bool bad),.dat .nof,.dat (.clo 81 [.prog w mem inn code])],.row 36 .paths E false] 1 (fun res B=>res = .tup [] /\ B = [.box [.dat (.i most),.row 1,.dat (.bool (pA ⟨w,mem,inn,code⟩ most left.toNat ⟨pc,rg,mm,sk,ic,ot,cd,sp,cn,tr⟩ E bad).2),.dat .nof,.dat (.clo 81 [.prog w mem inn code])],.row 36 .paths (pA ⟨w,mem,inn,code⟩ most left.toNat ⟨pc,rg,mm,sk,ic,ot,cd,sp,cn,tr⟩ E bad).1 false]) := ih.call _ _ _ _ _ _ _ _ _ _ _ _ _ hs h4 hx hE hb
theorem i_viT (w mem inn : Int) (code : List V.Ins) (pc : Int) (rg mm : List V.Term) (sk : List Int) (ic : Int) (ot : List V.Term) (cd sp : Int) (cn : List V.Term) (tr : List Int) (most : Int) (E : List V.Path) (left : Int) : CallsG Tryz.prog 83 [.ptr 0 0,.agg [.dat (.i pc),.dat (.seq .terms rg),.dat (.seq .terms mm),.dat (.seq .ints sk),.dat (.i ic),.dat (.seq .terms ot),.dat (.i cd),.dat (.i sp),.dat (.seq .terms cn),.dat (.seq .ints tr)],.dat (.i left)] [.box [.dat (.i most),.row 1,.dat (.bool true),.dat .nof,.dat (.clo 81 [.prog w mem inn code])],.row 36 .paths E false] 1 (fun res B=>res = .tup [] /\ B = [.box [.dat (.i most),.row 1,.dat (.bool (pA ⟨w,mem,inn,code⟩ most left.toNat ⟨pc,rg,mm,sk,ic,ot,cd,sp,cn,tr⟩ E true).2),.dat .nof,.dat (.clo 81 [.prog w mem inn code])],.row 36 .paths (pA ⟨w,mem,inn,code⟩ most left.toNat ⟨pc,rg,mm,sk,ic,ot,cd,sp,cn,tr⟩ E true).1 false]) := by
  refine oG Tryz.func83 ⟨?_⟩
  repeat' (first|((with_reducible refine fun (K1 : KT) hK=>?_);refine r3 ⟨?_⟩)|((with_reducible show K1 _ _);subst hK;conv=>whnf)|(with_reducible exact rfl)|refine st0 ⟨?_⟩|refine f2 ⟨?_⟩ ⟨?_⟩|fail)
  all_goals repeat clear hK K1
  all_goals first|exact rfl
theorem i_vi0 (w mem inn : Int) (code : List V.Ins) (most : Int) (n : Nat) (pc : Int) (rg mm : List V.Term) (sk : List Int) (ic : Int) (ot : List V.Term) (cd sp : Int) (cn : List V.Term) (tr : List Int) (E : List V.Path) (left : Int) (ih : IHvi w mem inn code most n) (hm : most <= 64) (hs : left.toNat < n + 1) (h4 : left <= 400) (hx : PX ⟨w,mem,inn,code⟩ ⟨pc,rg,mm,sk,ic,ot,cd,sp,cn,tr⟩) (hE : (E.length : Int) <= most) : CallsG Tryz.prog 83 [.ptr 0 0,.agg [.dat (.i pc),.dat (.seq .terms rg),.dat (.seq .terms mm),.dat (.seq .ints sk),.dat (.i ic),.dat (.seq .terms ot),.dat (.i cd),.dat (.i sp),.dat (.seq .terms cn),.dat (.seq .ints tr)],.dat (.i left)] [.box [.dat (.i most),.row 1,.dat (.bool false),.dat .nof,.dat (.clo 81 [.prog w mem inn code])],.row 36 .paths E false] 1 (fun res B=>res = .tup [] /\ B = [.box [.dat (.i most),.row 1,.dat (.bool (pA ⟨w,mem,inn,code⟩ most left.toNat ⟨pc,rg,mm,sk,ic,ot,cd,sp,cn,tr⟩ E false).2),.dat .nof,.dat (.clo 81 [.prog w mem inn code])],.row 36 .paths (pA ⟨w,mem,inn,code⟩ most left.toNat ⟨pc,rg,mm,sk,ic,ot,cd,sp,cn,tr⟩ E false).1 false]) := by
  refine oG Tryz.func83 ⟨?_⟩
  repeat' (first|((with_reducible refine yS [83] ?_ ?_);exact rfl;(conv=>whnf);simp only [List.nil_append,List.cons_append])|((with_reducible refine qhi ?_ ?_);exact rfl;(conv=>whnf);simp only [List.nil_append,List.cons_append])|((with_reducible refine fun (K1 : KT) hK=>?_);refine r3 ⟨?_⟩)|((with_reducible show K1 _ _);subst hK;conv=>whnf)|(with_reducible exact rfl)|refine y7 ⟨?_⟩|refine st0 ⟨?_⟩|((with_reducible refine SplS.mk (fun h=>?_) (fun h=>?_)) <;> first|exact o4|(subst h;conv=>whnf)|(conv=>whnf))|refine f2 ⟨?_⟩ ⟨?_⟩|((with_reducible show Exists _);refine ⟨_,_,qef (hx := ?_) ..,rfl,zV ?_⟩;rotate_right;conv=>whnf)|(refine y5 ({k : Nat // GvI ⟨w,mem,inn,code⟩ most (left.toNat - 1) ⟨pc,rg,mm,sk,ic,ot,cd,sp,cn,tr⟩ E k}) (fun ⟨k,hq⟩=>x5 Tryz.f83.ntmps [(0,.ptr 900000 0),(2,.dat (.i left)),(4,.ptr 4 0),(6,.dat (.seq .paths (u0 ⟨w,mem,inn,code⟩ ⟨pc,rg,mm,sk,ic,ot,cd,sp,cn,tr⟩))),(47,.dat (.seq .paths (u0 ⟨w,mem,inn,code⟩ ⟨pc,rg,mm,sk,ic,ot,cd,sp,cn,tr⟩))),(48,.dat (.i (u0 ⟨w,mem,inn,code⟩ ⟨pc,rg,mm,sk,ic,ot,cd,sp,cn,tr⟩).length)),(49,.dat (.i k))] [(4,.box [.dat (.i pc),.dat (.seq .terms rg),.dat (.seq .terms mm),.dat (.seq .ints sk),.dat (.i ic),.dat (.seq .terms ot),.dat (.i cd),.dat (.i sp),.dat (.seq .terms cn),.dat (.seq .ints tr)]),(900000,.box [.dat (.i most),.row 5,.dat (.bool (!(m5 (p3 ⟨w,mem,inn,code⟩ most (left.toNat - 1)) (u0 ⟨w,mem,inn,code⟩ ⟨pc,rg,mm,sk,ic,ot,cd,sp,cn,tr⟩) E k).2)),.dat .nof,.dat (.clo 81 [.prog w mem inn code])]),(5,.row 36 .paths (m5 (p3 ⟨w,mem,inn,code⟩ most (left.toNat - 1)) (u0 ⟨w,mem,inn,code⟩ ⟨pc,rg,mm,sk,ic,ot,cd,sp,cn,tr⟩) E k).1 false)]) (fun ⟨k,hq⟩=>(u0 ⟨w,mem,inn,code⟩ ⟨pc,rg,mm,sk,ic,ot,cd,sp,cn,tr⟩).length - k) ⟨0, ?_⟩ (SubP.sub (σ := [(4,some 4),(900000,some 900000),(5,some 900001)]) ⟨⟨rfl,rfl,rfl⟩,⟨rr,o0 ?_,rr,o0 ?_,o0 ?_,o0 ?_,o0 ?_,trivial⟩,⟨⟨j0 ?_,j0 ?_,j0 ?_,j0 ?_,j0 ?_,j0 ?_,j0 ?_,j0 ?_,j0 ?_,j0 ?_,trivial⟩,⟨j0 ?_,rfl,j0 ?_,j0 ?_,j0 ?_,trivial⟩,⟨rr, ?_⟩,trivial⟩⟩) (fun ⟨k,hq⟩=>?_);rotate_right;conv=>whnf)|(refine b6 (⟨k + 1, ?_⟩ : {k : Nat // GvI ⟨w,mem,inn,code⟩ most (left.toNat - 1) ⟨pc,rg,mm,sk,ic,ot,cd,sp,cn,tr⟩ E k}) ?_ (SubP.sub (σ := [(4,some 4),(900000,some 900000),(5,some 61001)]) ⟨⟨rfl,rfl,rfl⟩,⟨rr,o0 ?_,rr,o0 ?_,o0 ?_,o0 ?_,o0 ?_,trivial⟩,⟨⟨j0 ?_,j0 ?_,j0 ?_,j0 ?_,j0 ?_,j0 ?_,j0 ?_,j0 ?_,j0 ?_,j0 ?_,trivial⟩,⟨j0 ?_,rfl,j0 ?_,j0 ?_,j0 ?_,trivial⟩,⟨rr, ?_⟩,trivial⟩⟩))|refine vP (qd9 (h0 := ?_) (h1 := ?_) (h2 := ?_) (h3 := ?_) ..) ⟨?_⟩|refine gS (ih_vi (ih := by assumption) (hs := ?_) (h4 := ?_) (hx := ?_) (hE := ?_) (hb := ?_) ..) ⟨?_⟩|(intro h;conv=>whnf))
  all_goals repeat clear hK K1
  all_goals (try simp only [uD] at *)
  all_goals first|(with_reducible assumption)|exact hx.i.st0|exact hx.i.st1|((with_reducible show PX _ _);exact wH hx asmR)|exact (wH hx asmR).i.st0|exact (wH hx asmR).i.st1|exact hq.l1|exact hq.b asmR|((with_reducible show GvI _ _ _ _ _ _);exact gv_i hE (by first|exact Nat.zero_le _|omega))|exact tk_4 asmR h4 asmR|(rw [tk_w asmR h4 asmR];omega)|exact congrArg (Sigma.mk K.paths) (gv_s1 asmR h4 asmR)|exact congrArg Dat.bool (gv_s2 asmR h4 asmR)|((with_reducible show @Eq (List Blk) _ _);first|exact vC (eE (.inl asmR)) (uL (.inl asmR) asmR)|exact vC (eE (.inl asmR)) (vL (.inl asmR) asmR)|exact vC (eE (.inr asmR)) (uL (.inr asmR) asmR)|exact vC (eE (.inr asmR)) (vL (.inr asmR) asmR)|exact vC (gv_k1 asmR asmR hq asmR) (gv_k2 asmR asmR hq asmR))|((with_reducible show (_ : Nat) <= maxLen);first|(show 1 <= 2 ^ 63 - 1;decide)|(show _ + 1 <= 2 ^ 63 - 1;omega))|((with_reducible show _ * _ <= _);first|(show 1 * _ <= _;decide)|exact Nat.le_trans (Nat.mul_le_mul_right _ (show _ + 1 <= 65 by omega)) (by decide))|exact congrArg (Dat.int .i64) (wrap_succ asmR asmR).symm|((with_reducible show (_ : Int) <= _);omega)|((with_reducible show (_ : Nat) < _);((try dsimp only);omega))|exact rfl|skip
theorem qd8 (w mem inn : Int) (code : List V.Ins) (most : Int) (hm : most <= 64) : ∀ n : Nat,IHvi w mem inn code most n
  | 0=>⟨fun _ _ _ _ _ _ _ _ _ _ _ _ _ h=>absurd h (Nat.not_lt_zero _)⟩
  | n + 1=>⟨fun pc rg mm sk ic ot cd sp cn tr E bad left hs h4 hx hE hb=>by
    cases bad with
    | true=>exact i_viT w mem inn code pc rg mm sk ic ot cd sp cn tr most E left
    | false=>exact i_vi0 w mem inn code most n pc rg mm sk ic ot cd sp cn tr E left (qd8 w mem inn code most hm n) hm hs h4 hx (hb rfl)⟩
theorem i_viN0 (w mem inn : Int) (code : List V.Ins) (most : Int) (n : Nat) (pc : Int) (rg mm : List V.Term) (sk : List Int) (ic : Int) (ot : List V.Term) (cd sp : Int) (cn : List V.Term) (tr : List Int) (left : Int) (ih : IHvi w mem inn code most n) (_hm : most <= 64) (hs : left.toNat < n + 1) (h4 : left <= 400) (hx : PX ⟨w,mem,inn,code⟩ ⟨pc,rg,mm,sk,ic,ot,cd,sp,cn,tr⟩) (hE : 0 <= most) : CallsG Tryz.prog 83 [.ptr 0 0,.agg [.dat (.i pc),.dat (.seq .terms rg),.dat (.seq .terms mm),.dat (.seq .ints sk),.dat (.i ic),.dat (.seq .terms ot),.dat (.i cd),.dat (.i sp),.dat (.seq .terms cn),.dat (.seq .ints tr)],.dat (.i left)] [.box [.dat (.i most),.nils,.dat (.bool false),.dat .nof,.dat (.clo 81 [.prog w mem inn code])]] 1 (fun res B=>res = .tup [] /\ B = [.box [.dat (.i most),.row 1,.dat (.bool (pA ⟨w,mem,inn,code⟩ most left.toNat ⟨pc,rg,mm,sk,ic,ot,cd,sp,cn,tr⟩ ([] : List V.Path) false).2),.dat .nof,.dat (.clo 81 [.prog w mem inn code])],.row 36 .paths (pA ⟨w,mem,inn,code⟩ most left.toNat ⟨pc,rg,mm,sk,ic,ot,cd,sp,cn,tr⟩ ([] : List V.Path) false).1 false]) := by
  refine oG Tryz.func83 ⟨?_⟩
  repeat' (first|((with_reducible refine yS [83] ?_ ?_);exact rfl;(conv=>whnf);simp only [List.nil_append,List.cons_append])|((with_reducible refine qhi ?_ ?_);exact rfl;(conv=>whnf);simp only [List.nil_append,List.cons_append])|((with_reducible refine fun (K1 : KT) hK=>?_);refine r3 ⟨?_⟩)|((with_reducible show K1 _ _);subst hK;conv=>whnf)|(with_reducible exact rfl)|refine y7 ⟨?_⟩|refine st0 ⟨?_⟩|((with_reducible refine SplS.mk (fun h=>?_) (fun h=>?_)) <;> first|exact o4|(subst h;conv=>whnf)|(conv=>whnf))|refine f2 ⟨?_⟩ ⟨?_⟩|((with_reducible show Exists _);refine ⟨_,_,qef (hx := ?_) ..,rfl,zV ?_⟩;rotate_right;conv=>whnf)|(refine y5 ({k : Nat // GvI ⟨w,mem,inn,code⟩ most (left.toNat - 1) ⟨pc,rg,mm,sk,ic,ot,cd,sp,cn,tr⟩ ([] : List V.Path) k}) (fun ⟨k,hq⟩=>x5 Tryz.f83.ntmps [(0,.ptr 900000 0),(2,.dat (.i left)),(4,.ptr 4 0),(6,.dat (.seq .paths (u0 ⟨w,mem,inn,code⟩ ⟨pc,rg,mm,sk,ic,ot,cd,sp,cn,tr⟩))),(47,.dat (.seq .paths (u0 ⟨w,mem,inn,code⟩ ⟨pc,rg,mm,sk,ic,ot,cd,sp,cn,tr⟩))),(48,.dat (.i (u0 ⟨w,mem,inn,code⟩ ⟨pc,rg,mm,sk,ic,ot,cd,sp,cn,tr⟩).length)),(49,.dat (.i k))] [(4,.box [.dat (.i pc),.dat (.seq .terms rg),.dat (.seq .terms mm),.dat (.seq .ints sk),.dat (.i ic),.dat (.seq .terms ot),.dat (.i cd),.dat (.i sp),.dat (.seq .terms cn),.dat (.seq .ints tr)]),(900000,.box [.dat (.i most),.row 5,.dat (.bool (!(m5 (p3 ⟨w,mem,inn,code⟩ most (left.toNat - 1)) (u0 ⟨w,mem,inn,code⟩ ⟨pc,rg,mm,sk,ic,ot,cd,sp,cn,tr⟩) ([] : List V.Path) k).2)),.dat .nof,.dat (.clo 81 [.prog w mem inn code])]),(5,.row 36 .paths (m5 (p3 ⟨w,mem,inn,code⟩ most (left.toNat - 1)) (u0 ⟨w,mem,inn,code⟩ ⟨pc,rg,mm,sk,ic,ot,cd,sp,cn,tr⟩) ([] : List V.Path) k).1 false)]) (fun ⟨k,hq⟩=>(u0 ⟨w,mem,inn,code⟩ ⟨pc,rg,mm,sk,ic,ot,cd,sp,cn,tr⟩).length - k) ⟨0, ?_⟩ (SubP.sub (σ := [(4,some 4),(900000,some 900000),(5,none)]) ⟨⟨rfl,rfl,rfl⟩,⟨rr,o0 ?_,rr,o0 ?_,o0 ?_,o0 ?_,o0 ?_,trivial⟩,⟨⟨j0 ?_,j0 ?_,j0 ?_,j0 ?_,j0 ?_,j0 ?_,j0 ?_,j0 ?_,j0 ?_,j0 ?_,trivial⟩,⟨j0 ?_,rfl,j0 ?_,j0 ?_,j0 ?_,trivial⟩, ?_,trivial⟩⟩) (fun ⟨k,hq⟩=>?_);rotate_right;conv=>whnf)|(refine b6 (⟨k + 1, ?_⟩ : {k : Nat // GvI ⟨w,mem,inn,code⟩ most (left.toNat - 1) ⟨pc,rg,mm,sk,ic,ot,cd,sp,cn,tr⟩ ([] : List V.Path) k}) ?_ (SubP.sub (σ := [(4,some 4),(900000,some 900000),(5,some 61001)]) ⟨⟨rfl,rfl,rfl⟩,⟨rr,o0 ?_,rr,o0 ?_,o0 ?_,o0 ?_,o0 ?_,trivial⟩,⟨⟨j0 ?_,j0 ?_,j0 ?_,j0 ?_,j0 ?_,j0 ?_,j0 ?_,j0 ?_,j0 ?_,j0 ?_,trivial⟩,⟨j0 ?_,rfl,j0 ?_,j0 ?_,j0 ?_,trivial⟩,⟨rr, ?_⟩,trivial⟩⟩))|refine vP (qd9 (h0 := ?_) (h1 := ?_) (h2 := ?_) (h3 := ?_) ..) ⟨?_⟩|refine gS (ih_vi (ih := by assumption) (hs := ?_) (h4 := ?_) (hx := ?_) (hE := ?_) (hb := ?_) ..) ⟨?_⟩|(intro h;conv=>whnf))
  all_goals repeat clear hK K1
  all_goals (try simp only [uD] at *)
  all_goals first|(with_reducible assumption)|exact hx.i.st0|exact hx.i.st1|((with_reducible show PX _ _);exact wH hx asmR)|exact (wH hx asmR).i.st0|exact (wH hx asmR).i.st1|exact hq.l1|exact hq.b asmR|((with_reducible show GvI _ _ _ _ _ _);exact gv_i (E := []) hE (by first|exact Nat.zero_le _|omega))|exact tk_4 asmR h4 asmR|(rw [tk_w asmR h4 asmR];omega)|exact congrArg (Sigma.mk K.paths) (gv_s1 asmR h4 asmR)|exact congrArg Dat.bool (gv_s2 asmR h4 asmR)|((with_reducible show @Eq (List Blk) _ _);first|exact vC (eE (.inl asmR)) (uL (.inl asmR) asmR)|exact vC (eE (.inl asmR)) (vL (.inl asmR) asmR)|exact vC (eE (.inr asmR)) (uL (.inr asmR) asmR)|exact vC (eE (.inr asmR)) (vL (.inr asmR) asmR)|exact vC (eE (E := []) (.inl asmR)) (uL (E := []) (.inl asmR) (by assumption))|exact vC (eE (E := []) (.inl asmR)) (vL (E := []) (.inl asmR) (by assumption))|exact vC (eE (E := []) (.inr asmR)) (uL (E := []) (.inr asmR) (by assumption))|exact vC (eE (E := []) (.inr asmR)) (vL (E := []) (.inr asmR) (by assumption))|exact vC (gv_k1 asmR asmR hq asmR) (gv_k2 asmR asmR hq asmR))|((with_reducible show (_ : Nat) <= maxLen);first|(show 1 <= 2 ^ 63 - 1;decide)|(show _ + 1 <= 2 ^ 63 - 1;omega))|((with_reducible show _ * _ <= _);first|(show 1 * _ <= _;decide)|exact Nat.le_trans (Nat.mul_le_mul_right _ (show _ + 1 <= 65 by omega)) (by decide))|exact congrArg (Dat.int .i64) (wrap_succ asmR asmR).symm|((with_reducible show (_ : Int) <= _);omega)|((with_reducible show (_ : Nat) < _);((try dsimp only);omega))|exact rfl|skip
theorem qlq (w mem inn : Int) (code : List V.Ins) (most : Int) (pc : Int) (rg mm : List V.Term) (sk : List Int) (ic : Int) (ot : List V.Term) (cd sp : Int) (cn : List V.Term) (tr : List Int) (left : Int) (hm : most <= 64) (h1 : 0 <= most) (h4 : left <= 400) (hx : PX ⟨w,mem,inn,code⟩ ⟨pc,rg,mm,sk,ic,ot,cd,sp,cn,tr⟩) : CallsG Tryz.prog 83 [.ptr 0 0,.agg [.dat (.i pc),.dat (.seq .terms rg),.dat (.seq .terms mm),.dat (.seq .ints sk),.dat (.i ic),.dat (.seq .terms ot),.dat (.i cd),.dat (.i sp),.dat (.seq .terms cn),.dat (.seq .ints tr)],.dat (.i left)] [.box [.dat (.i most),.nils,.dat (.bool false),.dat .nof,.dat (.clo 81 [.prog w mem inn code])]] 1 (fun res B=>res = .tup [] /\ B = [.box [.dat (.i most),.row 1,.dat (.bool (pA ⟨w,mem,inn,code⟩ most left.toNat ⟨pc,rg,mm,sk,ic,ot,cd,sp,cn,tr⟩ ([] : List V.Path) false).2),.dat .nof,.dat (.clo 81 [.prog w mem inn code])],.row 36 .paths (pA ⟨w,mem,inn,code⟩ most left.toNat ⟨pc,rg,mm,sk,ic,ot,cd,sp,cn,tr⟩ ([] : List V.Path) false).1 false]) :=
  i_viN0 w mem inn code most left.toNat pc rg mm sk ic ot cd sp cn tr left (qd8 w mem inn code most hm left.toNat) hm (Nat.lt_succ_self _) h4 hx h1
section
variable {p : V.Prog} {most : Int} {f : Nat}
theorem xp_cp (hp : i4 p = true) (h : (p3 p most f (s7 p) []).2 = true) : ∀ s,s ∈ (p3 p most f (s7 p) []).1 -> CpOk s := fun s hs=>by
  rw [cX h,List.nil_append] at hs
  exact (lS (mP hp) s hs).i.cp
theorem xp_k (hm : most <= 64) (h0 : 1 <= most) : (p3 p most f (s7 p) []).1.length <= 1000 := by
  have := dX (p := p) (most := most) (f := f) (s := s7 p) (E := []) (show (0 : Int) <= most by omega)
  omega
end
theorem qmf (w mem inn : Int) (code : List V.Ins) (fuel most : Int) (hp : i4 ⟨w,mem,inn,code⟩ = true) (hf : 0 <= fuel) (hf2 : fuel <= 400) (hm : 1 <= most) (hm2 : most <= 64) : CallsV Tryz.prog 43 [.agg [.dat (.i w),.dat (.i mem),.dat (.i inn),.dat (.seq .inss code)],.dat (.i fuel),.dat (.i most)] (.tup [.dat (.seq .paths (p3 ⟨w,mem,inn,code⟩ most fuel.toNat (s7 ⟨w,mem,inn,code⟩) []).1),.dat (.bool (p3 ⟨w,mem,inn,code⟩ most fuel.toNat (s7 ⟨w,mem,inn,code⟩) []).2)]) := by
  refine oV Tryz.func43 ⟨?_⟩
  repeat' (first|((with_reducible refine fun (K1 : KT) hK=>?_);refine r3 ⟨?_⟩)|((with_reducible show K1 _ _);subst hK;conv=>whnf)|refine st0 ⟨?_⟩|((with_reducible refine SplS.mk (fun h=>?_) (fun h=>?_)) <;> first|exact yC|(conv=>whnf))|refine f2 ⟨?_⟩ ⟨?_⟩|refine vP (wW ..) ⟨?_⟩|refine vP (qee ..) ⟨?_⟩|refine vP (qma ..) ⟨?_⟩|refine vP (qlv (hp := ?_) ..) ⟨?_⟩|refine gS (qlq (hm := ?_) (h1 := ?_) (h4 := ?_) (hx := ?_) ..) ⟨?_⟩|fail)
  all_goals repeat clear hK K1
  all_goals (try simp only [uD] at *)
  all_goals first|(with_reducible assumption)|exact mP hp|exact wB (k6.2 ⟨hf,hf2⟩) asmR|exact wB (k6.2 ⟨hm,hm2⟩) asmR|((with_reducible show frzM _ _ _);first|exact frB rfl|exact frB (Bool.not_not _).symm|exact frB (Bool.not_not _)|exact frB asmR|(rw [aP asmR];exact rfl))|((with_reducible show (_ : Int) <= _);omega)|exact rfl|skip
theorem qmv (w mem inn : Int) (code : List V.Ins) (fuel most : Int) (hp : i4 ⟨w,mem,inn,code⟩ = true) (hf : 0 <= fuel) (hf2 : fuel <= 400) (hm : 1 <= most) (hm2 : most <= 64) : CallsV Tryz.prog 15 [.agg [.dat (.i w),.dat (.i mem),.dat (.i inn),.dat (.seq .inss code)],.dat (.i fuel),.dat (.i most)] (.tup [.dat (.seq .paths (exP ⟨w,mem,inn,code⟩ most fuel.toNat)),.dat (.bool (p3 ⟨w,mem,inn,code⟩ most fuel.toNat (s7 ⟨w,mem,inn,code⟩) []).2)]) := by
  refine oV Tryz.func15 ⟨?_⟩
  repeat' (first|((with_reducible refine fun (K1 : KT) hK=>?_);refine r3 ⟨?_⟩)|((with_reducible show K1 _ _);subst hK;conv=>whnf)|refine st0 ⟨?_⟩|((with_reducible refine SplS.mk (fun h=>?_) (fun h=>?_)) <;> first|exact yC|(conv=>whnf))|refine f2 ⟨?_⟩ ⟨?_⟩|refine vP (qmf (hp := ?_) (hf := ?_) (hf2 := ?_) (hm := ?_) (hm2 := ?_) ..) ⟨?_⟩|refine vP (qmj (hcp := ?_) (h2 := ?_) ..) ⟨?_⟩|(intro h;conv=>whnf))
  all_goals repeat clear hK K1
  all_goals first|(with_reducible assumption)|((with_reducible show frzM _ _ _);first|exact frB rfl|exact frB (Bool.not_not _).symm|exact frB (Bool.not_not _)|exact frB asmR|(rw [ex_y asmR];exact rfl)|(rw [aP asmR];exact rfl))|exact xp_cp hp asmR _ asmR|exact xp_k hm2 hm|exact trivial|skip
theorem qew {l : List Int} {k : Nat} (h : k < l.length) : l.getD k K.ints.dflt = l[k] := by
  rw [List.getD_eq_getElem?_getD,List.getElem?_eq_getElem h,Option.getD_some]
theorem qif {a b : List Int} {k : Nat} (hk : a.take k = b.take k) (ha : (k : Int) < a.length) (hb : (k : Int) < b.length) (he : b.getD (k : Int).toNat K.ints.dflt = a.getD (k : Int).toNat K.ints.dflt) : a.take (k + 1) = b.take (k + 1) := by
  have h1 : k < a.length := by omega
  have h2 : k < b.length := by omega
  rw [Int.toNat_natCast,qew h1,qew h2] at he
  rw [List.take_succ_eq_append_getElem h1,List.take_succ_eq_append_getElem h2,hk,he]
theorem ints_end {a b : List Int} {k : Nat} (hb : k <= b.length) (hk : a.take k = b.take k) (ha : ¬ (k : Int) < a.length) : Dat.bool ((a.length : Int) == b.length) = Dat.bool (decide (a = b)) := by
  refine congrArg Dat.bool ?_
  rw [Bool.eq_iff_iff,beq_iff_eq,decide_eq_true_iff]
  constructor
  . intro h
    rw [List.take_of_length_le omG,List.take_of_length_le omG] at hk
    exact hk
  . intro h;rw [h]
structure IntsI (a b : List Int) (k : Nat) : Prop where
  le : k <= b.length
  eq : a.take k = b.take k
theorem ints_s {a b : List Int} {k : Nat} (hk : IntsI a b k) (ha : (k : Int) < a.length) (hb : ¬ (k : Int) >= b.length) (he : b.getD (k : Int).toNat K.ints.dflt = a.getD (k : Int).toNat K.ints.dflt) : IntsI a b (k + 1) :=
  ⟨by omega,qif hk.eq ha omG he⟩
theorem l_ints (a b : List Int) : CallsV Tryz.prog 14 [.dat (.seq .ints a),.dat (.seq .ints b)] (.dat (.bool (decide (a = b)))) := by
  refine oV Tryz.func14 ⟨?_⟩
  repeat' (first|((with_reducible refine fun (K1 : KT) hK=>?_);refine r3 ⟨?_⟩)|((with_reducible show K1 _ _);subst hK;conv=>whnf)|(with_reducible exact rfl)|refine st0 ⟨?_⟩|((with_reducible refine SplS.mk (fun h=>?_) (fun h=>?_)) <;> first|exact o4|(subst h;conv=>whnf)|(conv=>whnf))|refine f2 ⟨?_⟩ ⟨?_⟩|(refine y5 ({k : Nat // IntsI a b k}) (fun ⟨k,hk⟩=>x5 Tryz.f14.ntmps [(0,.dat (.seq .ints a)),(1,.dat (.seq .ints b)),(7,.dat (.seq .ints a)),(8,.dat (.i a.length)),(9,.dat (.i k))] []) (fun ⟨k,hk⟩=>a.length - k) ⟨0,⟨Nat.zero_le _,rfl⟩⟩ (SubP.sub (σ := []) ⟨⟨rfl,rfl,rfl⟩,⟨o0 ?_,o0 ?_,o0 ?_,o0 ?_,o0 ?_,trivial⟩,trivial⟩) (fun ⟨k,hk⟩=>?_);rotate_right;conv=>whnf)|(refine b6 (⟨k + 1, ?_⟩ : {k : Nat // IntsI a b k}) ?_ (SubP.sub (σ := []) ⟨⟨rfl,rfl,rfl⟩,⟨o0 ?_,o0 ?_,o0 ?_,o0 ?_,o0 ?_,trivial⟩,trivial⟩))|(intro h;conv=>whnf))
  all_goals repeat clear hK K1
  all_goals first|(with_reducible assumption)|exact congrArg Dat.bool (decide_eq_false (fun e=>by subst e;omega))|exact ints_s hk asmR asmR asmR|exact (ints_end hk.le hk.eq asmR).symm|exact congrArg (Dat.int .i64) (wrap_succ asmR asmR).symm|exact (rfl : Dat.i ((0 : Nat) : Int) = Dat.int .i64 0)|omega|(dsimp only;omega)|skip
theorem qlf (pc : Int) (rg mm sk : List Int) (ic : Int) (ot : List Int) (cd sp : Int) (pc' : Int) (rg' mm' sk' : List Int) (ic' : Int) (ot' : List Int) (cd' sp' : Int) : CallsV Tryz.prog 45 [.agg [.dat (.i pc),.dat (.seq .ints rg),.dat (.seq .ints mm),.dat (.seq .ints sk),.dat (.i ic),.dat (.seq .ints ot),.dat (.i cd),.dat (.i sp)],.agg [.dat (.i pc'),.dat (.seq .ints rg'),.dat (.seq .ints mm'),.dat (.seq .ints sk'),.dat (.i ic'),.dat (.seq .ints ot'),.dat (.i cd'),.dat (.i sp')]] (.dat (.bool (decide ((⟨pc,rg,mm,sk,ic,ot,cd,sp⟩ : V.State) = ⟨pc',rg',mm',sk',ic',ot',cd',sp'⟩)))) := by
  refine oV Tryz.func45 ⟨?_⟩
  repeat' (first|((with_reducible refine fun (K1 : KT) hK=>?_);refine r3 ⟨?_⟩)|((with_reducible show K1 _ _);subst hK;conv=>whnf)|refine st0 ⟨?_⟩|((with_reducible refine SplS.mk (fun h=>?_) (fun h=>?_)) <;> first|exact o4|(subst h;conv=>whnf)|(conv=>whnf))|refine vP (l_ints ..) ⟨?_⟩|fail)
  all_goals repeat clear hK K1
  all_goals first|(simp [*];done)|(simp_all;done)|(refine congrArg Dat.bool ?_;rw [Bool.eq_iff_iff];simp;done)|skip
end Vg
