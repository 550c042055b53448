/- Walks and laws that the proof leans on. No condition. -/
import Derived.Test.YtfhkodimclmcdaaGreatDoorTermRB
import Derived.Test.YtfhkodimclmcdaaGreatDoorRg
namespace Vg
open Go Go.Proofs
set_option maxRecDepth 100000
set_option maxHeartbeats 40000000
/-! ### a constant as the first kid -/
abbrev zT : V.Term := ⟨0,0,0,ByteArray.empty,[]⟩
def r4 (op w : Int) (a b : V.Term) : Option V.Term :=
  if (op = 3 /\ a.n = 0) \/ (op = 5 /\ a.n = 1) \/ (op = 8 /\ a.n = onW a.w) \/ (op = 9 /\ a.n = 0) \/ (op = 10 /\ a.n = 0) \/ (op = 14 /\ a.w = 1 /\ a.n = 1) then some b
  else if (op = 5 /\ a.n = 0) \/ (op = 8 /\ a.n = 0) then some (cT w 0)
  else if op = 9 /\ a.n = onW a.w then some (cT w (onW a.w))
  else if (op = 10 /\ a.n = onW a.w) \/ (op = 14 /\ a.w = 1 /\ a.n = 0) then some (j4 (oT 1 w 0 [b]))
  else none
structure FirstNo (op : Int) (a : V.Term) : Prop where
  n1 : ¬ ((op = 3 /\ a.n = 0) \/ (op = 5 /\ a.n = 1) \/ (op = 8 /\ a.n = onW a.w) \/ (op = 9 /\ a.n = 0) \/ (op = 10 /\ a.n = 0) \/ (op = 14 /\ a.w = 1 /\ a.n = 1))
  n2 : ¬ ((op = 5 /\ a.n = 0) \/ (op = 8 /\ a.n = 0))
  n3 : ¬ (op = 9 /\ a.n = onW a.w)
  n4 : ¬ ((op = 10 /\ a.n = onW a.w) \/ (op = 14 /\ a.w = 1 /\ a.n = 0))
theorem qnm {op w : Int} {a b : V.Term} (h : (r4 op w a b).isSome = false) : FirstNo op a := by
  unfold r4 at h
  by_cases c1 : ((op = 3 /\ a.n = 0) \/ (op = 5 /\ a.n = 1) \/ (op = 8 /\ a.n = onW a.w) \/ (op = 9 /\ a.n = 0) \/ (op = 10 /\ a.n = 0) \/ (op = 14 /\ a.w = 1 /\ a.n = 1))
  . rw [if_pos c1] at h;cases h
  rw [if_neg c1] at h
  by_cases c2 : ((op = 5 /\ a.n = 0) \/ (op = 8 /\ a.n = 0))
  . rw [if_pos c2] at h;cases h
  rw [if_neg c2] at h
  by_cases c3 : (op = 9 /\ a.n = onW a.w)
  . rw [if_pos c3] at h;cases h
  rw [if_neg c3] at h
  by_cases c4 : ((op = 10 /\ a.n = onW a.w) \/ (op = 14 /\ a.w = 1 /\ a.n = 0))
  . rw [if_pos c4] at h;cases h
  exact ⟨c1,c2,c3,c4⟩
theorem qnn {t : V.Term} (ht : okT t = true) (ho : 3 <= t.op /\ t.op <= 16) (hc : k5 t.kids = false) (hs : ¬ (g4 t.op /\ cmpT (k0 t) (k1 t) = 1)) (h0 : (k0 t).op = 0) (h : (r4 t.op t.w (k0 t) (k1 t)).isSome = true) : j4 t = (r4 t.op t.w (k0 t) (k1 t)).getD zT := by
  have hb : s5 t = a6 t := by unfold s5;rw [if_neg omG,if_neg omG,if_neg omG,if_neg omG,if_neg omG]
  unfold r4 at h ⊢
  by_cases c1 : ((t.op = 3 /\ (k0 t).n = 0) \/ (t.op = 5 /\ (k0 t).n = 1) \/ (t.op = 8 /\ (k0 t).n = onW (k0 t).w) \/ (t.op = 9 /\ (k0 t).n = 0) \/ (t.op = 10 /\ (k0 t).n = 0) \/ (t.op = 14 /\ (k0 t).w = 1 /\ (k0 t).n = 1))
  . have hr : s5 t = (k1 t,false) := by rw [hb];unfold a6;rw [if_neg hs,if_pos ⟨h0,c1⟩]
    rw [eA ht omG hc hr,if_pos c1];rfl
  rw [if_neg c1] at h ⊢
  by_cases c2 : ((t.op = 5 /\ (k0 t).n = 0) \/ (t.op = 8 /\ (k0 t).n = 0))
  . have hr : s5 t = (cT t.w 0,false) := by rw [hb];unfold a6;rw [if_neg hs,if_neg (fun k=>c1 k.2),if_pos ⟨h0,c2⟩]
    rw [eA ht omG hc hr,if_pos c2];rfl
  rw [if_neg c2] at h ⊢
  by_cases c3 : (t.op = 9 /\ (k0 t).n = onW (k0 t).w)
  . have hr : s5 t = (cT t.w (onW (k0 t).w),false) := by rw [hb];unfold a6;rw [if_neg hs,if_neg (fun k=>c1 k.2),if_neg (fun k=>c2 k.2),if_pos ⟨h0,c3⟩]
    rw [eA ht omG hc hr,if_pos c3];rfl
  rw [if_neg c3] at h ⊢
  by_cases c4 : ((t.op = 10 /\ (k0 t).n = onW (k0 t).w) \/ (t.op = 14 /\ (k0 t).w = 1 /\ (k0 t).n = 0))
  . have hr : s5 t = (oT 1 t.w 0 [k1 t],true) := by rw [hb];unfold a6;rw [if_neg hs,if_neg (fun k=>c1 k.2),if_neg (fun k=>c2 k.2),if_neg (fun k=>c3 k.2),if_pos ⟨h0,c4⟩]
    rw [eA ht omG hc hr,if_pos c4];rfl
  rw [if_neg c4] at h
  cases h
theorem qe6 {t : V.Term} (ht : okT t = true) (ho : 3 <= t.op /\ t.op <= 16) (hs : ¬ (g4 t.op /\ cmpT (k0 t) (k1 t) = 1)) (h0 : (k0 t).op = 0) (c4 : (t.op = 10 /\ (k0 t).n = onW (k0 t).w) \/ (t.op = 14 /\ (k0 t).w = 1 /\ (k0 t).n = 0)) (c1 : ¬ (t.op = 10 /\ (k0 t).n = 0)) :
    okT (oT 1 t.w 0 [k1 t]) = true /\ l5 (oT 1 t.w 0 [k1 t]) < l5 t := by
  have hb : s5 t = a6 t := by unfold s5;rw [if_neg omG,if_neg omG,if_neg omG,if_neg omG,if_neg omG]
  refine m9 ht omG ?_
  rw [hb]
  unfold a6
  rw [if_neg hs,if_neg omG,if_neg omG,if_neg omG,if_pos ⟨h0,c4⟩]
theorem qb7 {w : Int} (h : inP w 1 16 = true) : wordP w (onW w) = true := by
  have F := wf h
  have h3 := F.s3
  exact lC h (by show 0 <= (2 : Int) ^ w.toNat - 1;omega) (by show (2 : Int) ^ w.toNat - 1 < _;omega)
theorem uJ {B : List Blk} {X : AV} {op w : Int} {a b : V.Term} (h : ∀ y,r4 op w a b = y -> frzM B (.dat (.bool y.isSome)) X) : frzM B (.dat (.bool (r4 op w a b).isSome)) X := h _ rfl
theorem ft_y {B : List Blk} {X : AV} {op w : Int} {a b : V.Term} (h : ∀ y,r4 op w a b = y -> frzM B (i5 (y.getD zT)) X) : frzM B (i5 ((r4 op w a b).getD zT)) X := h _ rfl
theorem ql2 (op w : Int) (a b : V.Term) (m : Nat) (ih : IHR m) (ha : inP a.w 1 16 = true) (hw : inP w 1 16 = true) (h9 : op = 9 -> w = a.w) (hk : (op = 10 /\ a.n = onW a.w) \/ (op = 14 /\ a.w = 1 /\ a.n = 0) -> ¬ (op = 10 /\ a.n = 0) -> okT (oT 1 w 0 [b]) = true /\ l5 (oT 1 w 0 [b]) < m) : CallsV Tryz.prog 229 [.dat (.i op),.dat (.i w),.agg [.dat (.i a.op),.dat (.i a.w),.dat (.i a.n),.dat (.str a.name),.dat (.seq .terms a.kids)],.agg [.dat (.i b.op),.dat (.i b.w),.dat (.i b.n),.dat (.str b.name),.dat (.seq .terms b.kids)]] (.tup [i5 ((r4 op w a b).getD zT),.dat (.bool (r4 op w a b).isSome)]) := by
  refine oV Tryz.func229 ⟨?_⟩
  repeat' (first|((with_reducible refine fun (K1 : KT) hK=>?_);refine r3 ⟨?_⟩)|((with_reducible show K1 _ _);subst hK;conv=>whnf)|refine st0 ⟨?_⟩|((with_reducible refine SplS.mk (fun h=>?_) (fun h=>?_)) <;> first|exact o4|(subst h;conv=>whnf)|(conv=>whnf))|refine f2 ⟨?_⟩ ⟨?_⟩|refine vP (ql9 (hw := ?_) ..) ⟨?_⟩|refine vP (oD (h := ?_) ..) ⟨?_⟩|((with_reducible refine y9 (g := 227) ?_);(conv=>whnf);refine ⟨_,_,fH (ih := asmR) (hk := ?_) (hm := ?_) ..,rfl,zV ?_⟩;rotate_right;conv=>whnf))
  all_goals repeat clear hK K1
  all_goals first|exact True.intro|exact ha|exact zero_word hw|(have e := h9 rfl;rw [e];exact qb7 ha)|(rw [V.Term.eta];first|exact (hk (.inl ⟨rfl,by with_reducible assumption⟩) omG).1|exact (hk (.inl ⟨rfl,by with_reducible assumption⟩) omG).2|exact (hk (.inr ⟨rfl,by with_reducible assumption,by with_reducible assumption⟩) omG).1|exact (hk (.inr ⟨rfl,by with_reducible assumption,by with_reducible assumption⟩) omG).2)|((try simp only [V.Term.eta,onW] at *);first|((first|refine uJ fun y hz=>?_|refine ft_y fun y hz=>?_);clear hk h9;unfold r4 onW at hz;(repeat (first|rw [if_pos omG] at hz|rw [if_neg omG] at hz));subst hz;first|exact rfl|exact fr5M (V.Term.eta _).symm|exact fr5M rfl|exact fr5Mn rfl))|skip
def p6 (t : V.Term) : V.Term × Bool :=
  if (k1 t).op = 0 /\ (k1 t).n = 0 /\ (t.op = 4 \/ t.op = 11 \/ t.op = 12 \/ t.op = 13) then (k0 t,false)
  else if (k1 t).op = 0 /\ (k1 t).n = 0 /\ t.op = 15 then (cT 1 0,false)
  else if cmpT (k0 t) (k1 t) = 0 /\ (t.op = 8 \/ t.op = 9) then (k0 t,false)
  else if cmpT (k0 t) (k1 t) = 0 /\ (t.op = 4 \/ t.op = 10 \/ t.op = 15 \/ t.op = 16) then (cT t.w 0,false)
  else if cmpT (k0 t) (k1 t) = 0 /\ t.op = 14 then (cT 1 1,false)
  else if (g4 t.op /\ t.op ≠ 14) /\ (k0 t).op = 0 /\ (k1 t).op = t.op /\ (k0 (k1 t)).op = 0 then (oT t.op t.w 0 [cT t.w (m4 t.op t.w (k0 t).n (k0 (k1 t)).n),k1 (k1 t)],true)
  else (t,false)
theorem tU {t : V.Term} (ho : 3 <= t.op /\ t.op <= 16) : s5 t = a6 t := by
  unfold s5
  rw [if_neg omG,if_neg omG,if_neg omG,if_neg omG,if_neg omG]
theorem xK {t : V.Term} (hs : g4 t.op) (hc : cmpT (k0 t) (k1 t) = 1) : a6 t = (oT t.op t.w 0 [k1 t,k0 t],true) := by
  unfold a6
  rw [if_pos ⟨hs,hc⟩]
theorem tD {t : V.Term} (hs : ¬ (g4 t.op /\ cmpT (k0 t) (k1 t) = 1)) (h0 : ¬ (k0 t).op = 0) : a6 t = p6 t := by
  unfold a6 p6
  rw [if_neg hs,if_neg (fun q=>h0 q.1),if_neg (fun q=>h0 q.1),if_neg (fun q=>h0 q.1),if_neg (fun q=>h0 q.1)]
theorem pC {t : V.Term} (hs : ¬ (g4 t.op /\ cmpT (k0 t) (k1 t) = 1)) (hf : (r4 t.op t.w (k0 t) (k1 t)).isSome = false) : a6 t = p6 t := by
  have f := qnm hf
  unfold a6 p6
  rw [if_neg hs,if_neg (fun q=>f.n1 q.2),if_neg (fun q=>f.n2 q.2),if_neg (fun q=>f.n3 q.2),if_neg (fun q=>f.n4 q.2)]
theorem n7 {t x : V.Term} (ht : okT t = true) (ho : 3 <= t.op /\ t.op <= 16) (hc : k5 t.kids = false) (hr : a6 t = (x,false)) : j4 t = x := by
  have := eA ht omG hc ((tU ho).trans hr)
  rwa [if_neg Bool.false_ne_true] at this
theorem fB {t x : V.Term} (ht : okT t = true) (ho : 3 <= t.op /\ t.op <= 16) (hc : k5 t.kids = false) (hr : a6 t = (x,true)) : j4 t = j4 x := by
  have := eA ht omG hc ((tU ho).trans hr)
  rwa [if_pos rfl] at this
theorem z7 {t x : V.Term} (ht : okT t = true) (ho : 3 <= t.op /\ t.op <= 16) (hr : a6 t = (x,true)) : okT x = true /\ l5 x < l5 t := m9 ht omG ((tU ho).trans hr)
structure FK (op w : Int) (a b : V.Term) (m : Nat) : Prop where
  h : (op = 10 /\ a.n = onW a.w) \/ (op = 14 /\ a.w = 1 /\ a.n = 0) -> ¬ (op = 10 /\ a.n = 0) -> okT (oT 1 w 0 [b]) = true /\ l5 (oT 1 w 0 [b]) < m
structure F9 (op w w' : Int) : Prop where
  h : op = 9 -> w = w'
theorem rL (op w : Int) (a b : V.Term) (m : Nat) (ih : IHR m) (ha : inP a.w 1 16 = true) (hw : inP w 1 16 = true) (h9 : F9 op w a.w) (hk : FK op w a b m) :
    CallsV Tryz.prog 229 [.dat (.i op),.dat (.i w),.agg [.dat (.i a.op),.dat (.i a.w),.dat (.i a.n),.dat (.str a.name),.dat (.seq .terms a.kids)],.agg [.dat (.i b.op),.dat (.i b.w),.dat (.i b.n),.dat (.str b.name),.dat (.seq .terms b.kids)]]
      (.tup [i5 ((r4 op w a b).getD zT),.dat (.bool (r4 op w a b).isSome)]) := ql2 op w a b m ih ha hw h9.h hk.h
theorem bM {k : Int} {t : V.Term} (ht : okT t = true) (ho : t.op = k) (h3 : 3 <= k /\ k <= 16) (hs : ¬ (g4 t.op /\ cmpT (k0 t) (k1 t) = 1)) (h0 : (k0 t).op = 0) : FK k t.w (k0 t) (k1 t) (l5 t) := by
  subst ho
  exact ⟨fun c4 c1=>qe6 ht h3 hs h0 c4 c1⟩
theorem dM {k : Int} {t : V.Term} (ht : okT t = true) (ho : t.op = k) (h3 : 3 <= k /\ k <= 16) : F9 k t.w (k0 t).w := by
  subst ho
  exact ⟨fun e=>(fit_b ht omG).1.symm⟩
theorem tJ {k : Int} {t : V.Term} (ht : okT t = true) (ho : t.op = k) (h3 : 3 <= k /\ k <= 16) (hc : k5 t.kids = false) (hs : ¬ (g4 t.op /\ cmpT (k0 t) (k1 t) = 1)) (h0 : (k0 t).op = 0) (h : (r4 k t.w (k0 t) (k1 t)).isSome = true) : j4 t = (r4 k t.w (k0 t) (k1 t)).getD zT := by
  subst ho
  exact qnn ht h3 hc hs h0 h
theorem bI {t : V.Term} (h : ¬ cmpT (k0 t) (k1 t) = 1) : ¬ (g4 t.op /\ cmpT (k0 t) (k1 t) = 1) := fun q=>h q.2
theorem sw_3 {t : V.Term} (ho : t.op = 3) (h : cmpT (k0 t) (k1 t) = 1) : a6 t = (oT 3 t.w 0 [k1 t,k0 t],true) := by
  rw [xK (by unfold g4;omega) h,ho]
theorem n1_3 {t : V.Term} (ho : t.op = 3) (hs : ¬ (g4 t.op /\ cmpT (k0 t) (k1 t) = 1)) (hf : (r4 3 t.w (k0 t) (k1 t)).isSome = false) : a6 t = p6 t := pC hs (by rw [ho];exact hf)
theorem r2_3 {t : V.Term} (ho : t.op = 3) : p6 t = if ((k0 t).op = 0 /\ (k1 t).op = 3 /\ (k0 (k1 t)).op = 0) then (oT 3 t.w 0 [cT t.w (m4 3 t.w (k0 t).n (k0 (k1 t)).n),k1 (k1 t)],true) else (t,false) := by
  unfold p6 g4
  rw [ho]
  simp
theorem aI {t : V.Term} (ho : t.op = 4) : ¬ (g4 t.op /\ cmpT (k0 t) (k1 t) = 1) := by unfold g4;omega
theorem n1_4 {t : V.Term} (ho : t.op = 4) (hs : ¬ (g4 t.op /\ cmpT (k0 t) (k1 t) = 1)) (hf : (r4 4 t.w (k0 t) (k1 t)).isSome = false) : a6 t = p6 t := pC hs (by rw [ho];exact hf)
theorem r2_4 {t : V.Term} (ho : t.op = 4) : p6 t = if ((k1 t).op = 0 /\ (k1 t).n = 0) then (k0 t,false) else if cmpT (k0 t) (k1 t) = 0 then (cT t.w 0,false) else (t,false) := by
  unfold p6 g4
  rw [ho]
  simp
theorem yD {t : V.Term} (h : ¬ cmpT (k0 t) (k1 t) = 1) : ¬ (g4 t.op /\ cmpT (k0 t) (k1 t) = 1) := fun q=>h q.2
theorem sw_5 {t : V.Term} (ho : t.op = 5) (h : cmpT (k0 t) (k1 t) = 1) : a6 t = (oT 5 t.w 0 [k1 t,k0 t],true) := by
  rw [xK (by unfold g4;omega) h,ho]
theorem n1_5 {t : V.Term} (ho : t.op = 5) (hs : ¬ (g4 t.op /\ cmpT (k0 t) (k1 t) = 1)) (hf : (r4 5 t.w (k0 t) (k1 t)).isSome = false) : a6 t = p6 t := pC hs (by rw [ho];exact hf)
theorem r2_5 {t : V.Term} (ho : t.op = 5) : p6 t = if ((k0 t).op = 0 /\ (k1 t).op = 5 /\ (k0 (k1 t)).op = 0) then (oT 5 t.w 0 [cT t.w (m4 5 t.w (k0 t).n (k0 (k1 t)).n),k1 (k1 t)],true) else (t,false) := by
  unfold p6 g4
  rw [ho]
  simp
theorem xD {t : V.Term} (ho : t.op = 6) : ¬ (g4 t.op /\ cmpT (k0 t) (k1 t) = 1) := by unfold g4;omega
theorem n1_6 {t : V.Term} (ho : t.op = 6) (hs : ¬ (g4 t.op /\ cmpT (k0 t) (k1 t) = 1)) (hf : (r4 6 t.w (k0 t) (k1 t)).isSome = false) : a6 t = p6 t := pC hs (by rw [ho];exact hf)
theorem r2_6 {t : V.Term} (ho : t.op = 6) : p6 t = (t,false) := by
  unfold p6 g4
  rw [ho]
  simp
theorem jB {t : V.Term} (ho : t.op = 7) : ¬ (g4 t.op /\ cmpT (k0 t) (k1 t) = 1) := by unfold g4;omega
theorem n1_7 {t : V.Term} (ho : t.op = 7) (hs : ¬ (g4 t.op /\ cmpT (k0 t) (k1 t) = 1)) (hf : (r4 7 t.w (k0 t) (k1 t)).isSome = false) : a6 t = p6 t := pC hs (by rw [ho];exact hf)
theorem r2_7 {t : V.Term} (ho : t.op = 7) : p6 t = (t,false) := by
  unfold p6 g4
  rw [ho]
  simp
theorem zH {t : V.Term} (h : ¬ cmpT (k0 t) (k1 t) = 1) : ¬ (g4 t.op /\ cmpT (k0 t) (k1 t) = 1) := fun q=>h q.2
theorem sw_8 {t : V.Term} (ho : t.op = 8) (h : cmpT (k0 t) (k1 t) = 1) : a6 t = (oT 8 t.w 0 [k1 t,k0 t],true) := by
  rw [xK (by unfold g4;omega) h,ho]
theorem n1_8 {t : V.Term} (ho : t.op = 8) (hs : ¬ (g4 t.op /\ cmpT (k0 t) (k1 t) = 1)) (hf : (r4 8 t.w (k0 t) (k1 t)).isSome = false) : a6 t = p6 t := pC hs (by rw [ho];exact hf)
theorem r2_8 {t : V.Term} (ho : t.op = 8) : p6 t = if cmpT (k0 t) (k1 t) = 0 then (k0 t,false) else if ((k0 t).op = 0 /\ (k1 t).op = 8 /\ (k0 (k1 t)).op = 0) then (oT 8 t.w 0 [cT t.w (m4 8 t.w (k0 t).n (k0 (k1 t)).n),k1 (k1 t)],true) else (t,false) := by
  unfold p6 g4
  rw [ho]
  simp
theorem iF {t : V.Term} (h : ¬ cmpT (k0 t) (k1 t) = 1) : ¬ (g4 t.op /\ cmpT (k0 t) (k1 t) = 1) := fun q=>h q.2
theorem sw_9 {t : V.Term} (ho : t.op = 9) (h : cmpT (k0 t) (k1 t) = 1) : a6 t = (oT 9 t.w 0 [k1 t,k0 t],true) := by
  rw [xK (by unfold g4;omega) h,ho]
theorem n1_9 {t : V.Term} (ho : t.op = 9) (hs : ¬ (g4 t.op /\ cmpT (k0 t) (k1 t) = 1)) (hf : (r4 9 t.w (k0 t) (k1 t)).isSome = false) : a6 t = p6 t := pC hs (by rw [ho];exact hf)
theorem r2_9 {t : V.Term} (ho : t.op = 9) : p6 t = if cmpT (k0 t) (k1 t) = 0 then (k0 t,false) else if ((k0 t).op = 0 /\ (k1 t).op = 9 /\ (k0 (k1 t)).op = 0) then (oT 9 t.w 0 [cT t.w (m4 9 t.w (k0 t).n (k0 (k1 t)).n),k1 (k1 t)],true) else (t,false) := by
  unfold p6 g4
  rw [ho]
  simp
theorem kD {t : V.Term} (h : ¬ cmpT (k0 t) (k1 t) = 1) : ¬ (g4 t.op /\ cmpT (k0 t) (k1 t) = 1) := fun q=>h q.2
theorem sw_10 {t : V.Term} (ho : t.op = 10) (h : cmpT (k0 t) (k1 t) = 1) : a6 t = (oT 10 t.w 0 [k1 t,k0 t],true) := by
  rw [xK (by unfold g4;omega) h,ho]
theorem n1_10 {t : V.Term} (ho : t.op = 10) (hs : ¬ (g4 t.op /\ cmpT (k0 t) (k1 t) = 1)) (hf : (r4 10 t.w (k0 t) (k1 t)).isSome = false) : a6 t = p6 t := pC hs (by rw [ho];exact hf)
theorem r2_10 {t : V.Term} (ho : t.op = 10) : p6 t = if cmpT (k0 t) (k1 t) = 0 then (cT t.w 0,false) else if ((k0 t).op = 0 /\ (k1 t).op = 10 /\ (k0 (k1 t)).op = 0) then (oT 10 t.w 0 [cT t.w (m4 10 t.w (k0 t).n (k0 (k1 t)).n),k1 (k1 t)],true) else (t,false) := by
  unfold p6 g4
  rw [ho]
  simp
theorem jD {t : V.Term} (ho : t.op = 11) : ¬ (g4 t.op /\ cmpT (k0 t) (k1 t) = 1) := by unfold g4;omega
theorem n1_11 {t : V.Term} (ho : t.op = 11) (hs : ¬ (g4 t.op /\ cmpT (k0 t) (k1 t) = 1)) (hf : (r4 11 t.w (k0 t) (k1 t)).isSome = false) : a6 t = p6 t := pC hs (by rw [ho];exact hf)
theorem r2_11 {t : V.Term} (ho : t.op = 11) : p6 t = if ((k1 t).op = 0 /\ (k1 t).n = 0) then (k0 t,false) else (t,false) := by
  unfold p6 g4
  rw [ho]
  simp
theorem pB {t : V.Term} (ho : t.op = 12) : ¬ (g4 t.op /\ cmpT (k0 t) (k1 t) = 1) := by unfold g4;omega
theorem n1_12 {t : V.Term} (ho : t.op = 12) (hs : ¬ (g4 t.op /\ cmpT (k0 t) (k1 t) = 1)) (hf : (r4 12 t.w (k0 t) (k1 t)).isSome = false) : a6 t = p6 t := pC hs (by rw [ho];exact hf)
theorem r2_12 {t : V.Term} (ho : t.op = 12) : p6 t = if ((k1 t).op = 0 /\ (k1 t).n = 0) then (k0 t,false) else (t,false) := by
  unfold p6 g4
  rw [ho]
  simp
theorem oB {t : V.Term} (ho : t.op = 13) : ¬ (g4 t.op /\ cmpT (k0 t) (k1 t) = 1) := by unfold g4;omega
theorem n1_13 {t : V.Term} (ho : t.op = 13) (hs : ¬ (g4 t.op /\ cmpT (k0 t) (k1 t) = 1)) (hf : (r4 13 t.w (k0 t) (k1 t)).isSome = false) : a6 t = p6 t := pC hs (by rw [ho];exact hf)
theorem r2_13 {t : V.Term} (ho : t.op = 13) : p6 t = if ((k1 t).op = 0 /\ (k1 t).n = 0) then (k0 t,false) else (t,false) := by
  unfold p6 g4
  rw [ho]
  simp
theorem cI {t : V.Term} (h : ¬ cmpT (k0 t) (k1 t) = 1) : ¬ (g4 t.op /\ cmpT (k0 t) (k1 t) = 1) := fun q=>h q.2
theorem sw_14 {t : V.Term} (ho : t.op = 14) (h : cmpT (k0 t) (k1 t) = 1) : a6 t = (oT 14 t.w 0 [k1 t,k0 t],true) := by
  rw [xK (by unfold g4;omega) h,ho]
theorem n1_14 {t : V.Term} (ho : t.op = 14) (hs : ¬ (g4 t.op /\ cmpT (k0 t) (k1 t) = 1)) (hf : (r4 14 t.w (k0 t) (k1 t)).isSome = false) : a6 t = p6 t := pC hs (by rw [ho];exact hf)
theorem r2_14 {t : V.Term} (ho : t.op = 14) : p6 t = if cmpT (k0 t) (k1 t) = 0 then (cT 1 1,false) else (t,false) := by
  unfold p6 g4
  rw [ho]
  simp
theorem jF {t : V.Term} (ho : t.op = 15) : ¬ (g4 t.op /\ cmpT (k0 t) (k1 t) = 1) := by unfold g4;omega
theorem n1_15 {t : V.Term} (ho : t.op = 15) (hs : ¬ (g4 t.op /\ cmpT (k0 t) (k1 t) = 1)) (hf : (r4 15 t.w (k0 t) (k1 t)).isSome = false) : a6 t = p6 t := pC hs (by rw [ho];exact hf)
theorem r2_15 {t : V.Term} (ho : t.op = 15) : p6 t = if ((k1 t).op = 0 /\ (k1 t).n = 0) then (cT 1 0,false) else if cmpT (k0 t) (k1 t) = 0 then (cT t.w 0,false) else (t,false) := by
  unfold p6 g4
  rw [ho]
  simp
theorem bC {t : V.Term} (ho : t.op = 16) : ¬ (g4 t.op /\ cmpT (k0 t) (k1 t) = 1) := by unfold g4;omega
theorem n1_16 {t : V.Term} (ho : t.op = 16) (hs : ¬ (g4 t.op /\ cmpT (k0 t) (k1 t) = 1)) (hf : (r4 16 t.w (k0 t) (k1 t)).isSome = false) : a6 t = p6 t := pC hs (by rw [ho];exact hf)
theorem r2_16 {t : V.Term} (ho : t.op = 16) : p6 t = if cmpT (k0 t) (k1 t) = 0 then (cT t.w 0,false) else (t,false) := by
  unfold p6 g4
  rw [ho]
  simp
theorem te_of {k : Int} {t : V.Term} (ho : t.op = k) : t = ⟨k,t.w,t.n,t.name,t.kids⟩ := by rw [<- ho];exact (V.Term.eta t).symm
theorem aN {k : Int} {t : V.Term} (ht : okT t = true) (ho : t.op = k) (h3 : 3 <= k /\ k <= 10) (h0 : (k0 t).op = 0) (h1 : (k1 t).op = k) (h2 : (k0 (k1 t)).op = 0) : wordP t.w (m4 k t.w (k0 t).n (k0 (k1 t)).n) = true := by
  have e := fit_b ht omG
  have a1 := y4 ht omG
  have f := fit_b a1 omG
  have w0 := const_w (ok0 ht omG) h0
  have w1 := const_w (ok0 a1 omG) h2
  rw [e.1] at w0
  rw [f.1,e.2] at w1
  exact qM omG w0 w1
theorem nE {a b c : Prop} (h : ¬ a) : ¬ (a /\ b /\ c) := fun q=>h q.1
theorem mE {a b c : Prop} (h : ¬ b) : ¬ (a /\ b /\ c) := fun q=>h q.2.1
theorem lE {a b c : Prop} (h : ¬ c) : ¬ (a /\ b /\ c) := fun q=>h q.2.2
theorem ql0 (t : V.Term) (ih : IHR (l5 t)) (ht : okT t = true) (ho : t.op = 18) (hc : k5 t.kids = false) : CallsV Tryz.prog 188 [.agg [.dat (.i t.op),.dat (.i t.w),.dat (.i t.n),.dat (.str t.name),.dat (.seq .terms t.kids)]] (i5 (j4 t)) := by
  refine oV Tryz.func188 ⟨?_⟩
  repeat' (first|((with_reducible refine fun (K1 : KT) hK=>?_);refine r3 ⟨?_⟩)|((with_reducible show K1 _ _);subst hK;conv=>whnf)|(with_reducible refine a8 ?_)|(with_reducible exact rfl)|refine y7 ⟨?_⟩|((with_reducible show WEach _ _);refine rA rfl ?_ ?_;conv=>whnf)|refine st0 ⟨?_⟩|((with_reducible refine SplS.mk (fun h=>?_) (fun h=>?_)) <;> first|exact o4|(subst h;conv=>whnf)|(conv=>whnf))|refine f2 ⟨?_⟩ ⟨?_⟩|refine vE (jI ..) ⟨?_⟩|((with_reducible refine y9 (g := 227) ?_);(conv=>whnf);refine ⟨_,_,fH (ih := asmR) (hk := ?_) (hm := ?_) ..,rfl,zV ?_⟩;rotate_right;conv=>whnf))
  all_goals repeat clear hK K1
  all_goals first|((with_reducible show (_ : Int) <= _);omega)|((with_reducible show (_ : Int) < _);first|exact r9 ht omG|exact j6 ht omG|exact s6 ht omG|exact r9 (ok0 ht omG) omG|exact j6 (ok0 ht omG) omG|exact s6 (ok0 ht omG) omG|exact fC (ok0 ht omG) omG|exact eC (ok0 ht omG) omG|exact dC (ok0 ht omG) omG|exact r9 (y4 ht omG) omG|exact j6 (y4 ht omG) omG|exact s6 (y4 ht omG) omG|exact fC (y4 ht omG) omG|exact eC (y4 ht omG) omG|exact dC (y4 ht omG) omG|omega)|(have c1 := fun h=>nB (y4 ht omG) h;have w1 := f8 (y4 ht omG);have v1 := fun h=>f8 (ok0 (y4 ht omG) h);(simp only [V.Term.eta,Int.toNat_zero,Int.toNat_one,k0,k1,kAt] at *;(try simp only [j3 (n := (t.kids.getD 1 K.terms.dflt).n + (t.kids.getD 1 K.terms.dflt).w) omG omG] at *);(try (refine ⟨k4 (t := j4 t) ?_⟩;(try rw [V.Term.eta])));first|omega|(obtain ⟨y,hr⟩ : ∃ y,s5 t = y := ⟨_,rfl⟩;have hz := hr;unfold s5 fG at hz;simp only [k0,k1,kAt] at hz;(repeat (first|rw [if_pos omG] at hz|rw [if_neg omG] at hz|rw [if_pos (by unfold g4;omega)] at hz|rw [if_neg (by unfold g4;omega)] at hz));rw [<- hz] at hr;(try rw [ho] at hr);first|exact eA ht omG hc hr|exact ⟨gH (t := j4 t) (eA ht omG hc hr)⟩|exact (m9 ht omG hr).1|exact (m9 ht omG hr).2)))|skip
end Vg
