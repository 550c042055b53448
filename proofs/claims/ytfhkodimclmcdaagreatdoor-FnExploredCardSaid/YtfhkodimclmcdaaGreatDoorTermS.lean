/- Terms are checked: contracts of the reference's functions. Condition: names are no longer than a law lets through. -/
import Derived.Test.YtfhkodimclmcdaaGreatDoorTermI
import Derived.Test.YtfhkodimclmcdaaGreatDoorRedQ
namespace Vg
open Go Go.Proofs
set_option maxRecDepth 100000
set_option maxHeartbeats 40000000
theorem qgv (s : ByteArray) (k : Nat) : 0 <= xA s k /\ xA s k < 256 := by
  unfold xA
  have := UInt8.toNat_lt (s.data.toList.getD k 0)
  omega
theorem qhw (s : ByteArray) (k : Nat) : IntKind.i64.wrap (xA s k) = xA s k := by
  have := qgv s k
  exact j3 omG omG
theorem qcm {s : ByteArray} {k : Nat} (h : kB s k = true) (hc : (97 <= xA s k /\ xA s k <= 122) \/ (48 <= xA s k /\ xA s k <= 57 /\ 0 < k)) : kB s (k + 1) = true := uV h hc
theorem qky {s : ByteArray} {k : Nat} (hk : k <= s.size /\ kB s k = true) (h : ¬ (k : Int) < s.size) : isNameP s = inP s.size 1 8 := by
  have e : k = s.size := by omega
  unfold isNameP
  rw [<- e,hk.2,Bool.and_true]
theorem qjt (s : ByteArray) (hs : s.size <= 1048576) : CallsV Tryz.prog 166 [.dat (.str s)] (.dat (.bool (isNameP s))) := by
  refine oV Tryz.func166 ⟨?_⟩
  repeat' (first|((with_reducible refine fun (K1 : KT) hK=>?_);refine w5 ⟨?_⟩)|((with_reducible show K1 _ _);subst hK;conv=>whnf)|(with_reducible exact rfl)|refine st0 ⟨?_⟩|((with_reducible refine SplS.mk (fun h=>?_) (fun h=>?_)) <;> first|exact u5|(subst h;conv=>whnf)|(conv=>whnf))|refine f2 ⟨?_⟩ ⟨?_⟩|(refine y5 ({k : Nat // k <= s.size /\ kB s k = true}) (fun ⟨k,hk⟩=>x5 Tryz.f166.ntmps [(0,.dat (.str s)),(3,.dat (.i k))] []) (fun ⟨k,hk⟩=>s.size - k) ⟨0,⟨Nat.zero_le _,rfl⟩⟩ (SubP.sub (σ := []) ⟨⟨rfl,rfl,rfl⟩,⟨o0 ?_,o0 ?_,trivial⟩,trivial⟩) (fun ⟨k,hk⟩=>?_);rotate_right;conv=>whnf)|(refine b6 (⟨k + 1, ?_⟩ : {k : Nat // k <= s.size /\ kB s k = true}) ?_ (SubP.sub (σ := []) ⟨⟨rfl,rfl,rfl⟩,⟨o0 ?_,o0 ?_,trivial⟩,trivial⟩))|refine vP (zA ..) ⟨?_⟩|fail)
  all_goals repeat clear hK K1
  all_goals first|(exact di_eq (rfl : ((0 : Nat) : Int) = 0))|exact di_eq (by rw [j3 omG omG];omega)|exact db_eq (qky hk asmR)|(have e : ((s.data.toList.getD (k : Int).toNat 0).toNat : Int) = xA s k := rfl;have eb := qgv s k;simp only [e,qhw] at *;first|exact ⟨by omega,qcm hk.2 (by simp only [inP,Bool.and_eq_true,Bool.and_eq_false_iff,decide_eq_true_eq,decide_eq_false_iff_not] at *;omega)⟩|exact qcm hk.2 (by simp only [inP,Bool.and_eq_true,Bool.and_eq_false_iff,decide_eq_true_eq,decide_eq_false_iff_not] at *;omega)|exact db_eq (qco omG (by simp only [inP,Bool.and_eq_true,Bool.and_eq_false_iff,decide_eq_true_eq,decide_eq_false_iff_not] at *;omega)))|omega|(dsimp only;omega)|skip
/-! ### few nodes -/
mutual
def fewT : V.Term -> Int -> Int
  | ⟨_,_,_,_,ks⟩,l=>j8 ks (l - 1)
def j8 : List V.Term -> Int -> Int
  | [],l=>l
  | k :: ks,l=>if 0 <= l then j8 ks (fewT k l) else l
end
mutual
theorem kS : ∀ (t : V.Term) (l : Int),0 <= l -> ((sizeT t : Int) <= l -> fewT t l = l - sizeT t) /\ (l < sizeT t -> fewT t l < 0) /\ -1 <= fewT t l /\ fewT t l <= l
  | ⟨_,_,_,_,ks⟩,l,h=>by
    rw [fewT,sizeT]
    have := jS ks (l - 1) omG
    refine ⟨fun h1=>?_,fun h1=>?_,this.2.2.1,by omega⟩
    . rw [this.1 omG omG];omega
    . by_cases h0 : 0 <= l - 1
      . exact this.2.1 h0 omG
      . have : j8 ks (l - 1) = l - 1 := by
          cases ks with
          | nil=>rw [j8]
          | cons k ks=>rw [j8,if_neg h0]
        omega
theorem jS : ∀ (ks : List V.Term) (l : Int),-1 <= l -> (0 <= l -> (g6 ks : Int) <= l -> j8 ks l = l - g6 ks) /\ (0 <= l -> l < g6 ks -> j8 ks l < 0) /\ -1 <= j8 ks l /\ j8 ks l <= l
  | [],l,h=>by
    rw [j8,g6]
    refine ⟨fun _ _=>by omega,fun h1 h2=>by omega,h,Int.le_refl _⟩
  | k :: ks,l,h=>by
    rw [j8,g6]
    by_cases h0 : 0 <= l
    . rw [if_pos h0]
      have h1 := kS k l h0
      have h2 := jS ks (fewT k l) h1.2.2.1
      refine ⟨fun _ h3=>?_,fun _ h3=>?_,h2.2.2.1,by omega⟩
      . have e := h1.1 omG
        rw [h2.1 omG omG,e];omega
      . by_cases hs : (sizeT k : Int) <= l
        . have e := h1.1 hs
          exact h2.2.1 omG omG
        . have := h1.2.1 omG
          omega
    . rw [if_neg h0]
      exact ⟨fun h1=>absurd h1 h0,fun h1=>absurd h1 h0,h,Int.le_refl _⟩
end
theorem oX (t : V.Term) : decide (fewT t 240 >= 0) = decide (sizeT t <= 240) := by
  have := kS t 240 omG
  rw [decide_eq_decide]
  constructor
  . intro h
    by_cases hs : sizeT t <= 240
    . exact hs
    . have := this.2.1 omG;omega
  . intro h
    have := this.1 omG;omega
def x9 (ks : List V.Term) (l : Int) (i : Nat) : Int := j8 (ks.take i) l
theorem qfa : ∀ (ks : List V.Term) (k : V.Term) (l : Int),0 <= j8 ks l -> 0 <= l -> j8 (ks ++ [k]) l = fewT k (j8 ks l)
  | [],k,l,_,h0=>by simp only [List.nil_append,j8];rw [if_pos h0]
  | x :: ks,k,l,h,h0=>by
    rw [List.cons_append,j8,if_pos h0]
    rw [j8,if_pos h0] at h
    have h1 : 0 <= fewT x l := by
      by_cases hx : 0 <= fewT x l
      . exact hx
      . have := (jS ks (fewT x l) (kS x l h0).2.2.1).2.2.2
        omega
    rw [qfa ks k _ h h1]
    conv=>rhs;rw [j8,if_pos h0]
theorem qe9 : ∀ (a b : List V.Term) (l : Int),j8 a l < 0 -> j8 (a ++ b) l = j8 a l
  | [],b,l,h=>by
    rw [j8] at h
    rw [List.nil_append]
    cases b with
    | nil=>rfl
    | cons x b=>simp only [j8];rw [if_neg omG]
  | x :: a,b,l,h=>by
    rw [List.cons_append,j8]
    rw [j8] at h
    conv=>rhs;rw [j8]
    by_cases h0 : 0 <= l
    . rw [if_pos h0] at h
      rw [if_pos h0,if_pos h0,qe9 a b _ h]
    . rw [if_neg h0,if_neg h0]
theorem fTo_0 (ks : List V.Term) (l : Int) : x9 ks l 0 = l := by simp [x9,j8]
theorem fTo_s {ks : List V.Term} {l : Int} {i : Nat} (hi : (i : Int) < ks.length) (h : x9 ks l i >= 0) (h0 : 0 <= l) : x9 ks l (i + 1) = fewT (kE ks i) (x9 ks l i) := by
  unfold x9 at *
  have hi' : i < ks.length := by omega
  rw [nD,List.take_add_one,List.getElem?_eq_getElem hi']
  have e : kAt ks i = ks[i] := by rw [kAt,List.getD_eq_getElem?_getD,List.getElem?_eq_getElem hi'];rfl
  rw [e]
  exact qfa _ _ _ h h0
theorem fTo_e {ks : List V.Term} {l : Int} {i : Nat} (hi : ¬ (i : Int) < ks.length) : x9 ks l i = j8 ks l := by
  unfold x9
  rw [List.take_of_length_le omG]
theorem fTo_n {ks : List V.Term} {l : Int} {i : Nat} (h : ¬ x9 ks l i >= 0) : x9 ks l i = j8 ks l := by
  unfold x9 at *
  have := qe9 (ks.take i) (ks.drop i) l omG
  rw [List.take_append_drop] at this
  exact this.symm
theorem qfb (t : V.Term) (l : Int) : fewT t l = j8 t.kids (l - 1) := by cases t;rw [fewT]
structure FewI (t : V.Term) (l : Int) (i : Nat) : Prop where
  le : i <= t.kids.length
  bd : -1 <= x9 t.kids (l - 1) i /\ x9 t.kids (l - 1) i <= 240
theorem fewI_0 {t : V.Term} {l : Int} (h : 0 <= l /\ l <= 240) : FewI t l 0 := ⟨Nat.zero_le _,by rw [fTo_0];omega⟩
theorem fewI_l {t : V.Term} {l : Int} {i : Nat} (hl : 0 <= l /\ l <= 240) (_h : FewI t l i) (h0 : x9 t.kids (l - 1) i >= 0) : 0 <= l - 1 := by
  by_cases hx : 0 <= l - 1
  . exact hx
  . have := (jS (t.kids.take i) (l - 1) omG).2.2.2
    unfold x9 at h0
    omega
theorem qfc {t : V.Term} {l : Int} {i : Nat} (hl : 0 <= l /\ l <= 240) (h : FewI t l i) (hi : (i : Int) < t.kids.length) (h0 : x9 t.kids (l - 1) i >= 0) : FewI t l (i + 1) /\ x9 t.kids (l - 1) (i + 1) = fewT (kE t.kids i) (x9 t.kids (l - 1) i) := by
  have e := fTo_s hi h0 (fewI_l hl h h0)
  have := (kS (kE t.kids i) (x9 t.kids (l - 1) i) h0).2.2
  have hb := h.bd
  exact ⟨⟨by omega,by rw [e];omega⟩,e⟩
theorem few_e {t : V.Term} {l : Int} {i : Nat} (h : ¬ (i : Int) < t.kids.length) : x9 t.kids (l - 1) i = fewT t l := by rw [fTo_e h,qfb]
theorem few_n {t : V.Term} {l : Int} {i : Nat} (h : ¬ x9 t.kids (l - 1) i >= 0) : x9 t.kids (l - 1) i = fewT t l := by rw [fTo_n h,qfb]
structure IHFew (t : V.Term) : Prop where
  call : ∀ (op w n : Int) (nm : ByteArray) (ks : List V.Term) (l : Int),0 <= l /\ l <= 240 -> sizeT ⟨op,w,n,nm,ks⟩ < sizeT t ->
    CallsG Tryz.prog 136 [.agg [.dat (.i op),.dat (.i w),.dat (.i n),.dat (.str nm),.dat (.seq .terms ks)],.ptr 0 0] [.box [.dat (.i l)]] 1
      (fun res B=>res = .dat (.bool (decide (fewT ⟨op,w,n,nm,ks⟩ l >= 0))) /\ B = [.box [.dat (.i (fewT ⟨op,w,n,nm,ks⟩ l))]])
theorem ih_few {t : V.Term} (ih : IHFew t) {op w n : Int} {nm : ByteArray} {ks : List V.Term} {l : Int} (hl : 0 <= l /\ l <= 240) (hs : sizeT ⟨op,w,n,nm,ks⟩ < sizeT t) :
    CallsG Tryz.prog 136 [.agg [.dat (.i op),.dat (.i w),.dat (.i n),.dat (.str nm),.dat (.seq .terms ks)],.ptr 0 0] [.box [.dat (.i l)]] 1
      (fun res B=>res = .dat (.bool (decide (fewT ⟨op,w,n,nm,ks⟩ l >= 0))) /\ B = [.box [.dat (.i (fewT ⟨op,w,n,nm,ks⟩ l))]]) := ih.call op w n nm ks l hl hs
theorem qgw {l l' : Int} (h : l = l') : [Blk.box [.dat (.int .i64 l)]] = [Blk.box [.dat (.i l')]] := by rw [h]
theorem c_few0 (t : V.Term) (l : Int) (ih : IHFew t) (hl : 0 <= l /\ l <= 240) : CallsG Tryz.prog 136 [.agg [.dat (.i t.op),.dat (.i t.w),.dat (.i t.n),.dat (.str t.name),.dat (.seq .terms t.kids)],.ptr 0 0] [.box [.dat (.i l)]] 1 (fun res B=>res = .dat (.bool (decide (fewT t l >= 0))) /\ B = [.box [.dat (.i (fewT t l))]]) := by
  refine oG Tryz.func136 ⟨?_⟩
  repeat' (first|((with_reducible refine fun (K1 : KT) hK=>?_);refine w5 ⟨?_⟩)|((with_reducible show K1 _ _);subst hK;conv=>whnf)|(with_reducible exact rfl)|refine st0 ⟨?_⟩|((with_reducible refine SplS.mk (fun h=>?_) (fun h=>?_)) <;> first|exact o4|(subst h;conv=>whnf)|(conv=>whnf))|refine f2 ⟨?_⟩ ⟨?_⟩|(refine y5 ({i : Nat // FewI t l i}) (fun ⟨i,hi⟩=>x5 Tryz.f136.ntmps [(1,.ptr 900000 0),(2,.ptr 2 0),(5,.dat (.i i))] [(900000,.box [.dat (.i (x9 t.kids (l - 1) i))]),(2,.box [.dat (.i t.op),.dat (.i t.w),.dat (.i t.n),.dat (.str t.name),.dat (.seq .terms t.kids)])]) (fun ⟨i,hi⟩=>t.kids.length - i) ⟨0,fewI_0 hl⟩ (SubP.sub (σ := [(900000,some 900000),(2,some 2)]) ⟨⟨rfl,rfl,rfl⟩,⟨rr,rr,o0 ?_,trivial⟩,⟨⟨j0 ?_,trivial⟩,⟨j0 ?_,j0 ?_,j0 ?_,j0 ?_,j0 ?_,trivial⟩,trivial⟩⟩) (fun ⟨i,hi⟩=>?_);rotate_right;conv=>whnf)|(refine b6 (⟨i + 1, ?_⟩ : {i : Nat // FewI t l i}) ?_ (SubP.sub (σ := [(900000,some 900000),(2,some 2)]) ⟨⟨rfl,rfl,rfl⟩,⟨rr,rr,o0 ?_,trivial⟩,⟨⟨j0 ?_,trivial⟩,⟨j0 ?_,j0 ?_,j0 ?_,j0 ?_,j0 ?_,trivial⟩,trivial⟩⟩))|refine gS (ih_few (ih := by assumption) (hl := ?_) (hs := ?_) ..) ⟨?_⟩|(intro h;conv=>whnf))
  all_goals repeat clear hK K1
  all_goals first|exact di_eq (rfl : ((0 : Nat) : Int) = 0)|exact di_eq (by rw [fTo_0,j3 omG omG])|exact (qfc hl hi asmR asmR).1|exact di_eq (qfc hl hi asmR asmR).2|(have hm : maxLen = 9223372036854775807 := rfl;refine di_eq ?_;rw [j3 omG omG];omega)|exact hi.bd.2|(rw [V.Term.eta];exact gJ asmR)|(have e := few_e (l := l) (show ¬ (i : Int) < t.kids.length by with_reducible assumption);first|exact qgw e|(refine yM ?_;rw [e]))|(have e := few_n (show ¬ x9 t.kids (l - 1) i >= 0 by with_reducible assumption);first|exact qgw e|(refine yM ?_;rw [e]))|omega|(dsimp only;omega)|skip
def sC : List V.Val -> ByteArray -> Option Int
  | [],_=>none
  | v :: l,s=>if v.name = s then some v.w else sC l s
def fA : List V.Val -> ByteArray -> Int -> List V.Val × Bool
  | [],s,w=>([⟨s,w,0⟩],true)
  | v :: l,s,w=>if o6 v.name s = true then (v :: (fA l s w).1,(fA l s w).2) else if v.name = s then (v :: l,decide (v.w = w)) else (⟨s,w,0⟩ :: v :: l,true)
abbrev SortV (l : List V.Val) : Prop := l.Pairwise fun a b=>o6 a.name b.name = true
theorem qc4 : ∀ {l : List V.Val} {s : ByteArray},(∀ x ∈ l,o6 s x.name = true) -> sC l s = none
  | [],_,_=>rfl
  | v :: l,s,h=>by
    rw [sC,if_neg (fun e=>by
      have := h v List.mem_cons_self
      rw [e,vK] at this
      cases this)]
    exact qc4 fun x hx=>h x (List.mem_cons_of_mem _ hx)
theorem qdx : ∀ {l : List V.Val} {s : ByteArray} {w : Int} {x : V.Val},x ∈ (fA l s w).1 -> x ∈ l \/ x.name = s
  | [],s,w,x,h=>by
    rw [fA] at h
    obtain rfl := List.mem_singleton.1 h
    exact .inr rfl
  | v :: l,s,w,x,h=>by
    rw [fA] at h
    split at h
    . rcases List.mem_cons.1 h with rfl|h
      . exact .inl List.mem_cons_self
      . rcases qdx h with h|h
        . exact .inl (List.mem_cons_of_mem _ h)
        . exact .inr h
    . split at h
      . exact .inl h
      . rcases List.mem_cons.1 h with rfl|h
        . exact .inr rfl
        . exact .inl h
theorem qdz : ∀ {l : List V.Val} {s : ByteArray} {w x : Int},SortV l -> sC l s = some x -> fA l s w = (l,decide (x = w))
  | [],_,_,_,_,h=>by cases h
  | v :: l,s,w,x,hs,h=>by
    rw [sC] at h
    rw [fA]
    by_cases e : v.name = s
    . rw [if_pos e] at h
      cases h
      rw [if_neg (by rw [e,vK];decide),if_pos e]
    . rw [if_neg e] at h
      have hv : o6 v.name s = true := by
        by_cases hv : o6 v.name s = true
        . exact hv
        . have h1 := uK e (by simpa using hv)
          have := qc4 (l := l) (s := s) fun y hy=>lN h1 ((List.pairwise_cons.1 hs).1 y hy)
          rw [this] at h
          cases h
      rw [if_pos hv,qdz (List.pairwise_cons.1 hs).2 h]
theorem qdw : ∀ {l : List V.Val} {s : ByteArray} {w : Int},SortV l -> sC l s = none -> (fA l s w).2 = true /\ SortV (fA l s w).1 /\ ∀ s',sC (fA l s w).1 s' = if s = s' then some w else sC l s'
  | [],s,w,_,_=>⟨rfl,List.pairwise_singleton _ _,fun s'=>by rw [fA];rfl⟩
  | v :: l,s,w,hs,h=>by
    rw [sC] at h
    by_cases e : v.name = s
    . rw [if_pos e] at h;cases h
    rw [if_neg e] at h
    rw [fA]
    have hs' := List.pairwise_cons.1 hs
    by_cases hv : o6 v.name s = true
    . rw [if_pos hv]
      obtain ⟨i1,i2,i3⟩ := qdw (w := w) hs'.2 h
      refine ⟨i1,List.pairwise_cons.2 ⟨fun x hx=>?_,i2⟩,fun s'=>?_⟩
      . rcases qdx hx with hx|hx
        . exact hs'.1 x hx
        . rw [hx];exact hv
      . rw [sC,i3,sC]
        by_cases e2 : v.name = s'
        . rw [if_pos e2,if_neg (fun e3=>e (e2.trans e3.symm)),if_pos e2]
        . rw [if_neg e2,if_neg e2]
    . rw [if_neg hv,if_neg e]
      have h1 := uK e (by simpa using hv)
      refine ⟨rfl,List.pairwise_cons.2 ⟨fun x hx=>?_,hs⟩,fun s'=>?_⟩
      . rcases List.mem_cons.1 hx with rfl|hx
        . exact h1
        . exact lN h1 (hs'.1 x hx)
      . rw [sC]
theorem yN {m : List (ByteArray × Int)} {s s' : ByteArray} {w : Int} (h : mget m s = none) : mget (y8 m s w) s' = if s = s' then some w else mget m s' := by
  have hf : mfind s m 0 = none := by
    unfold mget at h
    cases e : mfind s m 0 with
    | none=>rfl
    | some x=>rw [e] at h;cases h
  have hm : y8 m s w = m ++ [(s,w)] := by unfold y8;rw [hf]
  rw [hm]
  have ga : ∀ (m : List (ByteArray × Int)) (i j : Nat),(mfind s m j = none) -> (mfind s' (m ++ [(s,w)]) i).map (·.2) = if s = s' then some w else (mfind s' m i).map (·.2) := by
    intro m
    induction m with
    | nil =>
      intro i j _
      show (mfind s' [(s,w)] i).map (·.2) = _
      rw [mfind,mfind,mfind]
      split <;> rfl
    | cons a m ih =>
      intro i j h
      obtain ⟨k,n⟩ := a
      rw [mfind] at h
      split at h
      . cases h
      . rename_i hk
        rw [List.cons_append,mfind,mfind]
        by_cases e : k = s'
        . rw [if_pos e,if_neg (fun e2=>hk (e.trans e2.symm)),if_pos e]
        . rw [if_neg e,if_neg e]
          exact ih _ _ h
  exact ga m 0 0 hf
mutual
def varL : V.Term -> List V.Val -> List V.Val × Bool
  | ⟨op,w,_,nm,ks⟩,l=>if op = 22 then fA l nm w else x8 ks l
def x8 : List V.Term -> List V.Val -> List V.Val × Bool
  | [],l=>(l,true)
  | t :: ts,l=>if (varL t l).2 = true then x8 ts (varL t l).1 else ([],false)
end
structure RepV (l : List V.Val) (m : List (ByteArray × Int)) : Prop where
  srt : SortV l
  look : ∀ s,mget m s = sC l s
theorem repV_0 : RepV [] [] := ⟨List.Pairwise.nil,fun _=>rfl⟩
structure VarR (vs : List (ByteArray × Int)) (m : List (ByteArray × Int)) (r : List V.Val × Bool) : Prop where
  yes : r.2 = true -> ∃ m',gA m vs = some m' /\ RepV r.1 m'
  no : r.2 = false -> gA m vs = none
theorem qkr {op w n : Int} {nm : ByteArray} {ks : List V.Term} (h : okT ⟨op,w,n,nm,ks⟩ = true) (ho : op = 22) : ks = [] := by
  rw [okT] at h
  simp only [Bool.and_eq_true] at h
  have := (rC.1 h.1.1).len
  rw [ho] at this
  have e : nA 22 = 0 := rfl
  rw [e] at this
  exact List.length_eq_zero_iff.1 omG
theorem insR_r {l : List V.Val} {m : List (ByteArray × Int)} {s : ByteArray} {w : Int} (h : RepV l m) : VarR [(s,w)] m (fA l s w) := by
  cases e : sC l s with
  | none =>
    obtain ⟨i1,i2,i3⟩ := qdw (w := w) h.srt e
    have hm : mget m s = none := by rw [h.look,e]
    refine ⟨fun _=>⟨y8 m s w,by simp only [gA,hm],i2,fun s'=>?_⟩,fun h2=>by rw [i1] at h2;cases h2⟩
    rw [yN hm,i3,h.look]
  | some x =>
    have hm : mget m s = some x := by rw [h.look,e]
    rw [qdz h.srt e]
    refine ⟨fun h2=>⟨m, ?_,h⟩,fun h2=>?_⟩
    . simp only [gA,hm]
      rw [if_pos (of_decide_eq_true h2)]
    . simp only [gA,hm]
      rw [if_neg (of_decide_eq_false h2)]
mutual
theorem xZ : ∀ (t : V.Term) {l : List V.Val} {m : List (ByteArray × Int)},okT t = true -> RepV l m -> VarR (varsT t) m (varL t l)
  | ⟨op,w,n,nm,ks⟩,l,m,ht,h=>by
    rw [varL,varsT]
    by_cases ho : op = 22
    . have hk := qkr ht ho
      subst hk
      rw [if_pos ho,if_pos ho,l7]
      exact insR_r h
    . rw [if_neg ho,if_neg ho]
      rw [okT] at ht
      simp only [Bool.and_eq_true] at ht
      exact wZ ks ht.2 h
theorem wZ : ∀ (ks : List V.Term) {l : List V.Val} {m : List (ByteArray × Int)},okTs ks = true -> RepV l m -> VarR (l7 ks) m (x8 ks l)
  | [],l,m,_,h=>by
    rw [x8,l7]
    exact ⟨fun _=>⟨m,rfl,h⟩,fun h=>by cases h⟩
  | t :: ts,l,m,ht,h=>by
    rw [okTs,Bool.and_eq_true] at ht
    have h1 := xZ t ht.1 h
    rw [x8,l7]
    by_cases hv : (varL t l).2 = true
    . rw [if_pos hv]
      obtain ⟨m',e1,r1⟩ := h1.yes hv
      have h2 := wZ ts ht.2 r1
      refine ⟨fun h3=>?_,fun h3=>?_⟩
      . obtain ⟨m2,e2,r2⟩ := h2.yes h3
        exact ⟨m2,by rw [qI,e1];exact e2,r2⟩
      . rw [qI,e1];exact h2.no h3
    . rw [if_neg hv]
      refine ⟨fun h3=>(by cases h3),fun _=>?_⟩
      rw [qI,h1.no (by simpa using hv)]
      rfl
end
theorem qh1 {t : V.Term} (h : okT t = true) : (varL t []).2 = (gA [] (varsT t)).isSome := by
  have := xZ t h repV_0
  cases e : (varL t []).2 with
  | true=>obtain ⟨m,e1,_⟩ := this.yes e;rw [e1];rfl
  | false=>rw [this.no e];rfl
/-! ### how the place is found, and kid by kid -/
theorem rR : ∀ {l : List V.Val} {s : ByteArray} {w : Int} {k : Nat},k <= l.length -> (l.take k).all (fun v=>o6 v.name s) = true -> (∀ x,l[k]? = some x -> o6 x.name s = false) ->
    fA l s w = match l[k]? with
      | some x=>if x.name = s then (l,decide (x.w = w)) else (l.take k ++ ⟨s,w,0⟩ :: l.drop k,true)
      | none=>(l.take k ++ ⟨s,w,0⟩ :: l.drop k,true)
  | [],s,w,k,h,_,_=>by
    obtain rfl : k = 0 := by simpa using h
    rfl
  | v :: l,s,w,0,_,_,h=>by
    have h0 := h v rfl
    rw [fA,if_neg (by rw [h0];decide)]
    rfl
  | v :: l,s,w,k + 1,hk,ha,h=>by
    rw [List.take_succ_cons,List.all_cons,Bool.and_eq_true] at ha
    rw [fA,if_pos ha.1,rR (k := k) (by simpa using hk) ha.2 (by simpa using h)]
    simp only [List.getElem?_cons_succ,List.take_succ_cons,List.drop_succ_cons]
    split
    . split <;> rfl
    . rfl
theorem ins_end {l : List V.Val} {s : ByteArray} {w : Int} {k : Nat} (hk : k <= l.length /\ (l.take k).all (fun v=>o6 v.name s) = true) (h : ¬ (k : Int) < l.length) : fA l s w = (l.take k ++ ⟨s,w,0⟩ :: l.drop k,true) := by
  have hn : l[k]? = none := List.getElem?_eq_none omG
  rw [rR hk.1 hk.2 (by rw [hn];intro x hx;cases hx),hn]
theorem qlk {l : List V.Val} {s : ByteArray} {w : Int} {k : Nat} (hk : k <= l.length /\ (l.take k).all (fun v=>o6 v.name s) = true) (h : (k : Int) < l.length) (hl : o6 (l.getD k K.vals.dflt).name s = false) (he : (l.getD k K.vals.dflt).name = s) : fA l s w = (l,decide ((l.getD k K.vals.dflt).w = w)) := by
  have hn : l[k]? = some (l.getD k K.vals.dflt) := by
    rw [List.getD_eq_getElem?_getD,List.getElem?_eq_getElem omG];rfl
  rw [rR hk.1 hk.2 (by rw [hn];intro x hx;cases hx;exact hl),hn]
  show (if _ then _ else _) = _
  rw [if_pos he]
theorem ins_mid {l : List V.Val} {s : ByteArray} {w : Int} {k : Nat} (hk : k <= l.length /\ (l.take k).all (fun v=>o6 v.name s) = true) (h : (k : Int) < l.length) (hl : o6 (l.getD k K.vals.dflt).name s = false) (he : ¬ (l.getD k K.vals.dflt).name = s) : fA l s w = (l.take k ++ ⟨s,w,0⟩ :: l.drop k,true) := by
  have hn : l[k]? = some (l.getD k K.vals.dflt) := by
    rw [List.getD_eq_getElem?_getD,List.getElem?_eq_getElem omG];rfl
  rw [rR hk.1 hk.2 (by rw [hn];intro x hx;cases hx;exact hl),hn]
  show (if _ then _ else _) = _
  rw [if_neg he]
theorem ins_s {l : List V.Val} {s : ByteArray} {k : Nat} (hk : k <= l.length /\ (l.take k).all (fun v=>o6 v.name s) = true) (h : (k : Int) < l.length) (hl : o6 (l.getD k K.vals.dflt).name s = true) : k + 1 <= l.length /\ (l.take (k + 1)).all (fun v=>o6 v.name s) = true := by
  refine ⟨by omega, ?_⟩
  rw [lH K.vals.dflt h,hk.2,hl];rfl
noncomputable def aA (ks : List V.Term) (l : List V.Val) (i : Nat) : List V.Val × Bool := x8 (ks.take i) l
theorem vZ : ∀ (ks : List V.Term) (k : V.Term) (l : List V.Val),(x8 ks l).2 = true -> x8 (ks ++ [k]) l = if (varL k (x8 ks l).1).2 = true then varL k (x8 ks l).1 else ([],false)
  | [],k,l,_=>by
    rw [List.nil_append,x8,x8]
    simp only [x8]
    split
    . rename_i h;exact Prod.ext rfl h.symm
    . rfl
  | x :: ks,k,l,h=>by
    rw [List.cons_append,x8]
    rw [x8] at h
    by_cases hx : (varL x l).2 = true
    . rw [if_pos hx] at h ⊢
      rw [vZ ks k _ h]
      conv=>rhs;rw [x8,if_pos hx]
    . rw [if_neg hx] at h;cases h
theorem uZ : ∀ (a b : List V.Term) (l : List V.Val),(x8 a l).2 = false -> x8 (a ++ b) l = ([],false)
  | [],b,l,h=>by rw [x8] at h;cases h
  | x :: a,b,l,h=>by
    rw [List.cons_append,x8]
    rw [x8] at h
    by_cases hx : (varL x l).2 = true
    . rw [if_pos hx] at h
      rw [if_pos hx,uZ a b _ h]
    . rw [if_neg hx]
theorem vTo_0 (ks : List V.Term) (l : List V.Val) : aA ks l 0 = (l,true) := by simp [aA,x8]
theorem vTo_s {ks : List V.Term} {l : List V.Val} {i : Nat} (hi : i < ks.length) (h : (aA ks l i).2 = true) : aA ks l (i + 1) = if (varL (kAt ks i) (aA ks l i).1).2 = true then varL (kAt ks i) (aA ks l i).1 else ([],false) := by
  unfold aA at *
  rw [List.take_add_one,List.getElem?_eq_getElem hi]
  have e : kAt ks i = ks[i] := by rw [kAt,List.getD_eq_getElem?_getD,List.getElem?_eq_getElem hi];rfl
  rw [e]
  exact vZ _ _ _ h
theorem vTo_e {ks : List V.Term} {l : List V.Val} {i : Nat} (hi : ¬ (i : Int) < ks.length) : aA ks l i = x8 ks l := by
  unfold aA
  rw [List.take_of_length_le omG]
theorem vTo_n {ks : List V.Term} {l : List V.Val} {i : Nat} (h : (aA ks l i).2 = false) : x8 ks l = ([],false) := by
  unfold aA at *
  have := uZ (ks.take i) (ks.drop i) l h
  rwa [List.take_append_drop] at this
theorem sT {t : V.Term} {l : List V.Val} (h : t.op = 22) : varL t l = fA l t.name t.w := by cases t;rw [varL];exact if_pos h
theorem yZ {t : V.Term} {l : List V.Val} (h : ¬ t.op = 22) : varL t l = x8 t.kids l := by cases t;rw [varL];exact if_neg h
theorem qdy : ∀ (l : List V.Val) (s : ByteArray) (w : Int),(fA l s w).1.length <= l.length + 1
  | [],s,w=>Nat.le_refl _
  | v :: l,s,w=>by
    rw [fA]
    split
    . have := qdy l s w
      simp only [List.length_cons]
      omega
    . split <;> simp only [List.length_cons] <;> omega
mutual
theorem qh2 : ∀ (t : V.Term) (l : List V.Val),(varL t l).1.length <= l.length + sizeT t
  | ⟨op,w,n,nm,ks⟩,l=>by
    rw [varL,sizeT]
    split
    . have := qdy l nm w
      omega
    . have := rT ks l
      omega
theorem rT : ∀ (ks : List V.Term) (l : List V.Val),(x8 ks l).1.length <= l.length + g6 ks
  | [],l=>by rw [x8];exact Nat.le_add_right _ _
  | t :: ts,l=>by
    rw [x8,g6]
    have h1 := qh2 t l
    split
    . have h2 := rT ts (varL t l).1
      omega
    . exact Nat.zero_le _
end
theorem qa4 : ∀ (ks : List V.Term) (i : Nat),i < ks.length -> g6 (ks.take i) + sizeT (kAt ks i) <= g6 ks
  | [],_,h=>absurd h (Nat.not_lt_zero _)
  | t :: ts,0,_=>by
    show g6 [] + sizeT t <= _
    rw [g6,g6];omega
  | t :: ts,i + 1,h=>by
    have := qa4 ts i (by simpa using h)
    show g6 (t :: ts.take i) + sizeT (kAt ts i) <= _
    rw [g6,g6];omega
structure VarI (t : V.Term) (l : List V.Val) (i : Nat) : Prop where
  le : i <= t.kids.length
  so : (aA t.kids l i).2 = true
  no : ¬ t.op = 22
theorem varI_0 {t : V.Term} {l : List V.Val} (h : ¬ t.op = 22) : VarI t l 0 := ⟨Nat.zero_le _,by rw [vTo_0],h⟩
theorem zZ {t : V.Term} {l : List V.Val} {i : Nat} (h : VarI t l i) (hi : (i : Int) < t.kids.length) (hy : (varL (kE t.kids i) (aA t.kids l i).1).2 = true) : VarI t l (i + 1) /\ aA t.kids l (i + 1) = varL (kE t.kids i) (aA t.kids l i).1 := by
  rw [nD] at hy ⊢
  have e : aA t.kids l (i + 1) = varL (kAt t.kids i) (aA t.kids l i).1 := by rw [vTo_s omG h.so,if_pos hy]
  exact ⟨⟨by omega,by rw [e];exact hy,h.no⟩,e⟩
theorem varI_n {t : V.Term} {l : List V.Val} {i : Nat} (h : VarI t l i) (hi : (i : Int) < t.kids.length) (hy : (varL (kE t.kids i) (aA t.kids l i).1).2 = false) : varL t l = ([],false) := by
  rw [nD] at hy
  rw [yZ h.no]
  have e : aA t.kids l (i + 1) = ([],false) := by rw [vTo_s omG h.so,if_neg (by rw [hy];decide)]
  exact vTo_n (i := i + 1) (by rw [e])
theorem varI_e {t : V.Term} {l : List V.Val} {i : Nat} (h : VarI t l i) (hi : ¬ (i : Int) < t.kids.length) : varL t l = ((aA t.kids l i).1,true) := by
  rw [yZ h.no,<- vTo_e hi]
  exact Prod.ext rfl h.so
theorem varI_l {t : V.Term} {l : List V.Val} {i : Nat} (_h : VarI t l i) (hi : (i : Int) < t.kids.length) (hl : l.length + sizeT t <= 1048576) : (aA t.kids l i).1.length + sizeT (kE t.kids i) <= 1048576 := by
  rw [nD]
  have h1 := rT (t.kids.take i) l
  have h2 := qa4 t.kids i omG
  have h3 := dJ t
  unfold aA
  omega
end Vg
