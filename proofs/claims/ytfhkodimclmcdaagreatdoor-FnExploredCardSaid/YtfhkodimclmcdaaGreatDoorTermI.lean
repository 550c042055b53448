/- Terms: what it means that one is good; the plain law of the checks. No condition. -/
import Derived.Test.YtfhkodimclmcdaaGreatDoorBase
import Derived.Test.YtfhkodimclmcdaaGreatDoorRet
import Derived.Lib.Strings
namespace Vg
open Go Go.Proofs
theorem V.Term.eta (x : V.Term) : (⟨x.op,x.w,x.n,x.name,x.kids⟩ : V.Term) = x := by cases x;rfl
def xA (s : ByteArray) (n : Nat) : Int := ((s.data.toList.getD n 0).toNat : Int)
/-! ### names -/
def chOk (i : Nat) (b : Int) : Bool := inP b 97 122 || (inP b 48 57 && decide (0 < i))
def kB (s : ByteArray) : Nat -> Bool
  | 0=>true
  | k + 1=>kB s k && chOk k (xA s k)
def isNameP (s : ByteArray) : Bool := inP s.size 1 8 && kB s s.size
theorem qcq {s : ByteArray} : ∀ {k m : Nat},k <= m -> kB s m = true -> kB s k = true
  | k, 0, h, _ => by obtain rfl : k = 0 := by omega
                     rfl
  | k,m + 1,h,hm=>by
    by_cases e : k = m + 1
    . subst e;exact hm
    . simp only [kB,Bool.and_eq_true] at hm
      exact qcq omG hm.1
/-! ### a node and its kids -/
abbrev kAt (ks : List V.Term) (i : Nat) : V.Term := ks.getD i K.terms.dflt
def nA (op : Int) : Int :=
  if op = 0 \/ op = 22 then 0 else if op = 1 \/ op = 2 \/ op = 19 \/ op = 20 \/ op = 21 then 1 else if (3 <= op /\ op <= 16) \/ op = 18 then 2 else if op = 17 then 3 else -1
def qA (op w n : Int) (ks : List V.Term) : Bool :=
  if op = 0 \/ op = 22 then true
  else if op = 1 \/ op = 2 then decide ((kAt ks 0).w = w)
  else if 3 <= op /\ op <= 13 then decide ((kAt ks 0).w = w) && decide ((kAt ks 1).w = w)
  else if 14 <= op /\ op <= 16 then decide ((kAt ks 0).w = (kAt ks 1).w) && decide (w = 1)
  else if op = 17 then decide ((kAt ks 0).w = 1) && decide ((kAt ks 1).w = w) && decide ((kAt ks 2).w = w)
  else if op = 18 then decide ((kAt ks 0).w + (kAt ks 1).w = w)
  else if op = 19 then decide (0 <= n) && decide (n <= (kAt ks 0).w - w)
  else decide ((kAt ks 0).w <= w)
structure NodeOk (op w n : Int) (nm : ByteArray) (ks : List V.Term) : Prop where
  width : inP w 1 16 = true
  len : (ks.length : Int) = nA op
  kw : ks.all (fun k=>inP k.w 1 16) = true
  fit : qA op w n ks = true
  const : op = 0 -> wordP w n = true
  num : op ≠ 0 -> op ≠ 19 -> n = 0
  nam : op ≠ 22 -> nm = ByteArray.empty
open Classical in
noncomputable def lD (op w n : Int) (nm : ByteArray) (ks : List V.Term) : Bool := decide (NodeOk op w n nm ks)
mutual
def sizeT : V.Term -> Nat
  | ⟨_,_,_,_,ks⟩=>1 + g6 ks
def g6 : List V.Term -> Nat
  | []=>0
  | t :: ts=>sizeT t + g6 ts
end
mutual
noncomputable def okT : V.Term -> Bool
  | ⟨op,w,n,nm,ks⟩=>lD op w n nm ks && (!decide (op = 22) || isNameP nm) && okTs ks
noncomputable def okTs : List V.Term -> Bool
  | []=>true
  | t :: ts=>okT t && okTs ts
end
mutual
def varsT : V.Term -> List (ByteArray × Int)
  | ⟨op,w,_,nm,ks⟩=>if op = 22 then (nm,w) :: l7 ks else l7 ks
def l7 : List V.Term -> List (ByteArray × Int)
  | []=>[]
  | t :: ts=>varsT t ++ l7 ts
end
theorem qH : ∀ t,1 <= sizeT t
  | ⟨_,_,_,_,ks⟩=>by rw [sizeT];omega
theorem gN : ∀ {ks : List V.Term} {i : Nat},i < ks.length -> sizeT (kAt ks i) <= g6 ks
  | t :: ts,0,_=>by show sizeT t <= _;rw [g6];omega
  | t :: ts,i + 1,h=>by
    have := gN (ks := ts) (i := i) (by simpa using h)
    show sizeT (kAt ts i) <= _
    rw [g6];omega
theorem qir {op w n : Int} {nm : ByteArray} {ks : List V.Term} {i : Nat} (h : i < ks.length) : sizeT (kAt ks i) < sizeT ⟨op,w,n,nm,ks⟩ := by
  have := gN h
  rw [sizeT];omega
def gA (m : List (ByteArray × Int)) : List (ByteArray × Int) -> Option (List (ByteArray × Int))
  | []=>some m
  | (s,w) :: l=>match mget m s with
    | some x=>if x = w then gA m l else none
    | none=>gA (y8 m s w) l
theorem qI : ∀ (a b m : List (ByteArray × Int)),gA m (a ++ b) = (gA m a).bind fun m=>gA m b
  | [],_,_=>rfl
  | (s,w) :: a,b,m=>by
    rw [List.cons_append]
    simp only [gA]
    cases mget m s with
    | none=>exact qI a b _
    | some x =>
      simp only
      split
      . exact qI a b m
      . rfl
noncomputable def i7 (t : V.Term) : Bool := decide (sizeT t <= 240) && okT t && (gA [] (varsT t)).isSome
/-! ### the program's check -/
structure TC where
  c : Int
  m : List (ByteArray × Int)
  z : Bool
def n8 (s : ByteArray) (w : Int) (q : TC) : Bool × TC :=
  if isNameP s = true then match mget q.m s with
    | some x=>(decide (x = w),⟨q.c,q.m,false⟩)
    | none=>(true,⟨q.c,y8 q.m s w,false⟩)
  else (false,q)
mutual
noncomputable def nodeF : V.Term -> TC -> Bool × TC
  | ⟨op,w,n,nm,ks⟩,q=>if q.c + 1 <= 240 /\ lD op w n nm ks = true then
      if op = 22 then if (n8 nm w ⟨q.c + 1,q.m,q.z⟩).1 = true then u7 ks (n8 nm w ⟨q.c + 1,q.m,q.z⟩).2 else (false,(n8 nm w ⟨q.c + 1,q.m,q.z⟩).2)
      else u7 ks ⟨q.c + 1,q.m,q.z⟩
    else (false,⟨q.c + 1,q.m,q.z⟩)
noncomputable def u7 : List V.Term -> TC -> Bool × TC
  | [],q=>(true,q)
  | k :: ks,q=>if (nodeF k q).1 = true then u7 ks (nodeF k q).2 else (false,(nodeF k q).2)
end
theorem qab (s : ByteArray) (w : Int) (q : TC) : (n8 s w q).2.c = q.c := by
  unfold n8
  split
  . split <;> rfl
  . rfl
theorem qaa {s : ByteArray} {w : Int} {q : TC} (h : q.z = true -> q.m = []) : (n8 s w q).2.z = true -> (n8 s w q).2.m = [] := by
  unfold n8
  split
  . split <;> (intro h;cases h)
  . exact h
mutual
theorem nodeF_z : ∀ (t : V.Term) {q : TC},(q.z = true -> q.m = []) -> ((nodeF t q).2.z = true -> (nodeF t q).2.m = [])
  | ⟨op,w,n,nm,ks⟩,q,h=>by
    rw [nodeF]
    split
    . split
      . have hv := qaa (s := nm) (w := w) (q := ⟨q.c + 1,q.m,q.z⟩) h
        split
        . exact lR ks hv
        . exact hv
      . exact lR ks h
    . exact h
theorem lR : ∀ (ks : List V.Term) {q : TC},(q.z = true -> q.m = []) -> ((u7 ks q).2.z = true -> (u7 ks q).2.m = [])
  | [],q,h=>by rw [u7];exact h
  | k :: ks,q,h=>by
    rw [u7]
    have hk := nodeF_z k h
    split
    . exact lR ks hk
    . exact hk
end
structure ChkR (sz : Nat) (ok : Bool) (vs : List (ByteArray × Int)) (q : TC) (r : Bool × TC) : Prop where
  yes : r.1 = true -> q.c + sz <= 240 /\ ok = true /\ gA q.m vs = some r.2.m /\ r.2.c = q.c + sz
  no : q.c + sz <= 240 -> ok = true -> (gA q.m vs).isSome = true -> r.1 = true
mutual
theorem qV : ∀ (t : V.Term) (q : TC),ChkR (sizeT t) (okT t) (varsT t) q (nodeF t q)
  | ⟨op,w,n,nm,ks⟩,q=>by
    rw [nodeF,sizeT,okT,varsT]
    by_cases hp : q.c + 1 <= 240 /\ lD op w n nm ks = true
    . rw [if_pos hp,hp.2]
      by_cases ho : op = 22
      . rw [if_pos ho,if_pos ho]
        have e1 : decide (op = 22) = true := decide_eq_true ho
        rw [e1]
        by_cases hn : isNameP nm = true
        . rw [hn]
          have hv : n8 nm w ⟨q.c + 1,q.m,q.z⟩ = match mget q.m nm with
              | some x=>(decide (x = w),⟨q.c + 1,q.m,false⟩)
              | none=>(true,⟨q.c + 1,y8 q.m nm w,false⟩) := by unfold n8;rw [if_pos hn]
          rw [hv]
          cases hm : mget q.m nm with
          | none =>
            simp only [if_true]
            have ih := mR ks ⟨q.c + 1,y8 q.m nm w,false⟩ hp.1
            refine ⟨fun h=>?_,fun h1 h2 h3=>?_⟩
            . obtain ⟨h1,h2,h3,h4⟩ := ih.yes h
              simp only at h1 h3 h4
              refine ⟨by omega,by simp [h2],by simp only [gA,hm];exact h3,by rw [h4];omega⟩
            . simp only [gA,hm] at h3
              exact ih.no (by simp only;omega) (by simpa using h2) h3
          | some x =>
            simp only
            by_cases hx : x = w
            . have ex : decide (x = w) = true := decide_eq_true hx
              rw [ex]
              simp only [if_true]
              have ih := mR ks ⟨q.c + 1,q.m,false⟩ hp.1
              refine ⟨fun h=>?_,fun h1 h2 h3=>?_⟩
              . obtain ⟨h1,h2,h3,h4⟩ := ih.yes h
                simp only at h1 h3 h4
                refine ⟨by omega,by simp [h2],by simp only [gA,hm];rw [if_pos hx];exact h3,by rw [h4];omega⟩
              . simp only [gA,hm] at h3
                rw [if_pos hx] at h3
                exact ih.no (by simp only;omega) (by simpa using h2) h3
            . have ex : decide (x = w) = false := decide_eq_false hx
              rw [ex]
              simp only [Bool.false_eq_true,if_false]
              refine ⟨fun h=>(by cases h),fun _ _ h3=>?_⟩
              simp only [gA,hm] at h3
              rw [if_neg hx] at h3
              cases h3
        . have hn' : isNameP nm = false := by simpa using hn
          have hv : n8 nm w ⟨q.c + 1,q.m,q.z⟩ = (false,⟨q.c + 1,q.m,q.z⟩) := by unfold n8;rw [if_neg hn]
          rw [hv,hn']
          simp only [Bool.false_eq_true,if_false]
          exact ⟨fun h=>(by cases h),fun _ h2 _=>by simp at h2⟩
      . rw [if_neg ho,if_neg ho]
        have e1 : decide (op = 22) = false := decide_eq_false ho
        rw [e1]
        have ih := mR ks ⟨q.c + 1,q.m,q.z⟩ hp.1
        refine ⟨fun h=>?_,fun h1 h2 h3=>ih.no (by simp only;omega) (by simpa using h2) h3⟩
        obtain ⟨h1,h2,h3,h4⟩ := ih.yes h
        simp only at h1 h3 h4
        exact ⟨by omega,by simp [h2],h3,by rw [h4];omega⟩
    . rw [if_neg hp]
      refine ⟨fun h=>(by cases h),fun h1 h2 _=>?_⟩
      exfalso
      apply hp
      simp only [Bool.and_eq_true] at h2
      exact ⟨by omega,h2.1.1⟩
theorem mR : ∀ (ks : List V.Term) (q : TC),q.c <= 240 -> ChkR (g6 ks) (okTs ks) (l7 ks) q (u7 ks q)
  | [],q,hq=>by rw [u7,g6,okTs,l7];exact ⟨fun _=>⟨by omega,rfl,rfl,by simp⟩,fun _ _ _=>rfl⟩
  | k :: ks,q,_=>by
    rw [u7,g6,okTs,l7]
    have h1 := qV k q
    by_cases hk : (nodeF k q).1 = true
    . rw [if_pos hk]
      obtain ⟨a1,a2,a3,a4⟩ := h1.yes hk
      have h2 := mR ks (nodeF k q).2 omG
      refine ⟨fun h=>?_,fun b1 b2 b3=>?_⟩
      . obtain ⟨c1,c2,c3,c4⟩ := h2.yes h
        rw [a4] at c1 c4
        exact ⟨by omega,by rw [a2,c2];rfl,by rw [qI,a3];exact c3,by rw [c4];omega⟩
      . rw [qI,a3] at b3
        rw [Bool.and_eq_true] at b2
        exact h2.no (by rw [a4];omega) b2.2 b3
    . rw [if_neg hk]
      refine ⟨fun h=>(by cases h),fun b1 b2 b3=>absurd (h1.no omG ?_ ?_) hk⟩
      . rw [Bool.and_eq_true] at b2;exact b2.1
      . rw [qI] at b3
        cases e : gA q.m (varsT k) with
        | none=>rw [e] at b3;cases b3
        | some _=>rfl
end
theorem qn2 (t : V.Term) : (nodeF t ⟨0,[],true⟩).1 = i7 t := by
  have h := qV t ⟨0,[],true⟩
  unfold i7
  rw [Bool.eq_iff_iff]
  constructor
  . intro hy
    obtain ⟨h1,h2,h3,_⟩ := h.yes hy
    simp only at h1 h3
    rw [h2,h3]
    simp
    omega
  . intro hy
    simp only [Bool.and_eq_true,decide_eq_true_eq] at hy
    exact h.no (by simp only;omega) hy.1.2 hy.2
theorem qdl : ∀ (ks : List V.Term) (k : V.Term) (q : TC),(u7 ks q).1 = true -> u7 (ks ++ [k]) q = nodeF k (u7 ks q).2
  | [],k,q,_=>by
    rw [List.nil_append,u7]
    simp only [u7]
    split
    . rename_i h;exact Prod.ext h.symm rfl
    . rename_i h;exact Prod.ext (by simpa using h) rfl
  | x :: ks,k,q,h=>by
    rw [List.cons_append,u7]
    rw [u7] at h
    by_cases hx : (nodeF x q).1 = true
    . rw [if_pos hx] at h ⊢
      rw [qdl ks k _ h]
      conv=>rhs;rw [u7,if_pos hx]
    . rw [if_neg hx] at h;cases h
theorem qdk : ∀ (a b : List V.Term) (q : TC),(u7 a q).1 = false -> u7 (a ++ b) q = u7 a q
  | [],b,q,h=>by rw [u7] at h;cases h
  | x :: a,b,q,h=>by
    rw [List.cons_append,u7]
    conv=>rhs;rw [u7]
    rw [u7] at h
    by_cases hx : (nodeF x q).1 = true
    . rw [if_pos hx] at h
      rw [if_pos hx,if_pos hx,qdk a b _ h]
    . rw [if_neg hx,if_neg hx]
noncomputable def r8 (ks : List V.Term) (q : TC) (i : Nat) : Bool × TC := u7 (ks.take i) q
theorem mW (ks : List V.Term) (q : TC) : r8 ks q 0 = (true,q) := by simp [r8,u7]
theorem kTo_s {ks : List V.Term} {q : TC} {i : Nat} (hi : i < ks.length) (h : (r8 ks q i).1 = true) : r8 ks q (i + 1) = nodeF (kAt ks i) (r8 ks q i).2 := by
  unfold r8 at *
  rw [List.take_add_one,List.getElem?_eq_getElem hi]
  have e : kAt ks i = ks[i] := by rw [kAt,List.getD_eq_getElem?_getD,List.getElem?_eq_getElem hi];rfl
  rw [e]
  exact qdl _ _ _ h
theorem kTo_end {ks : List V.Term} {q : TC} {i : Nat} (hi : ¬ i < ks.length) : r8 ks q i = u7 ks q := by
  unfold r8
  rw [List.take_of_length_le omG]
theorem kTo_no {ks : List V.Term} {q : TC} {i : Nat} (h : (r8 ks q i).1 = false) : u7 ks q = r8 ks q i := by
  unfold r8 at *
  have := qdk (ks.take i) (ks.drop i) q h
  rwa [List.take_append_drop] at this
theorem kTo_z {ks : List V.Term} {q : TC} {i : Nat} (h : q.z = true -> q.m = []) : (r8 ks q i).2.z = true -> (r8 ks q i).2.m = [] := lR _ h
end Vg
namespace Vg
open Go Go.Proofs
set_option maxRecDepth 100000
set_option maxHeartbeats 40000000
theorem di_eq {a b : Int} (h : a = b) : Dat.i a = Dat.int .i64 b := congrArg (Dat.int .i64) h
theorem db_eq {a b : Bool} (h : a = b) : Dat.bool a = Dat.bool b := congrArg Dat.bool h
theorem xT {a b : ByteArray} (h : (a.toList == b.toList) = true) : a = b := by
  rw [Lib.toList_data,Lib.toList_data] at h
  have := eq_of_beq h
  exact ByteArray.ext (Array.ext' this)
theorem bQ {a b : ByteArray} (h : (a.toList == b.toList) = false) : a ≠ b := fun e=>by
  subst e
  have : (a.toList == a.toList) = true := beq_self_eq_true _
  rw [this] at h
  cases h
theorem yT {a : ByteArray} (h : (a.toList == (⟨#[]⟩ : ByteArray).toList) = true) : a = ByteArray.empty := xT h
theorem qgh (i : Nat) (b : Int) : chOk i b = true ↔ (97 <= b /\ b <= 122) \/ (48 <= b /\ b <= 57 /\ 0 < i) := by
  simp [chOk,inP]
  omega
theorem uV {s : ByteArray} {k : Nat} (h : kB s k = true) (hc : (97 <= xA s k /\ xA s k <= 122) \/ (48 <= xA s k /\ xA s k <= 57 /\ 0 < k)) : kB s (k + 1) = true := by
  rw [kB,h,(qgh _ _).2 hc];rfl
theorem qco {s : ByteArray} {k : Nat} (hk : (k : Int) < s.size) (hc : ¬ ((97 <= xA s k /\ xA s k <= 122) \/ (48 <= xA s k /\ xA s k <= 57 /\ 0 < k))) : isNameP s = false := by
  cases e : isNameP s with
  | false=>rfl
  | true =>
    exfalso
    simp only [isNameP,Bool.and_eq_true] at e
    have := qcq (k := k + 1) omG e.2
    simp only [kB,Bool.and_eq_true] at this
    exact hc ((qgh _ _).1 this.2)
theorem qcp {s : ByteArray} (h : (s.size : Int) < 1 \/ (s.size : Int) > 8) : isNameP s = false := by
  have : inP s.size 1 8 = false := by simp [inP];omega
  unfold isNameP
  rw [this];rfl
theorem qkx {s : ByteArray} {k : Nat} (hk : k <= s.size /\ s.size <= 8 /\ kB s k = true) (h0 : ¬ (s.size : Int) < 1) (h : ¬ (k : Int) < s.size) : isNameP s = true := by
  have e : k = s.size := by omega
  have : inP s.size 1 8 = true := by simp [inP];omega
  unfold isNameP
  rw [this,<- e,hk.2.2];rfl
theorem iW {ks : List V.Term} {i : Nat} (hk : ks.all (fun k=>inP k.w 1 16) = true) (h : i < ks.length) : 1 <= (kAt ks i).w /\ (kAt ks i).w <= 16 := by
  have : inP (kAt ks i).w 1 16 = true := by
    rw [kAt,List.getD_eq_getElem?_getD,List.getElem?_eq_getElem h]
    exact List.all_eq_true.1 hk _ (List.getElem_mem h)
  simp [inP] at this
  exact this
theorem nF {x : Int} (h : inP x 1 16 = true) : 1 <= x /\ x <= 16 := by simpa [inP] using h
theorem qdm {op : Int} {n : Nat} (h : (n : Int) = nA op) : (op = 0 \/ op = 22 -> n = 0) /\ (op = 1 \/ op = 2 \/ op = 19 \/ op = 20 \/ op = 21 -> n = 1) /\ ((3 <= op /\ op <= 16) \/ op = 18 -> n = 2) /\ (op = 17 -> n = 3) /\ 0 <= op /\ op <= 22 := by
  unfold nA at h
  repeat' split at h
  all_goals omega
theorem xW (s : ByteArray) : CallsV Tryz.prog 140 [.dat (.str s)] (.dat (.bool (isNameP s))) := by
  refine oV Tryz.func140 ⟨?_⟩
  repeat' (first|((with_reducible refine fun (K1 : KT) hK=>?_);refine w5 ⟨?_⟩)|((with_reducible show K1 _ _);subst hK;conv=>whnf)|(with_reducible exact rfl)|refine st0 ⟨?_⟩|((with_reducible refine SplS.mk (fun h=>?_) (fun h=>?_)) <;> first|exact u5|(subst h;conv=>whnf)|(conv=>whnf))|refine f2 ⟨?_⟩ ⟨?_⟩|(refine y5 ({k : Nat // k <= s.size /\ s.size <= 8 /\ kB s k = true}) (fun ⟨k,hk⟩=>x5 Tryz.f140.ntmps [(0,.dat (.str s)),(3,.dat (.i k))] []) (fun ⟨k,hk⟩=>s.size - k) ⟨0,⟨Nat.zero_le _, ?_,rfl⟩⟩ (SubP.sub (σ := []) ⟨⟨rfl,rfl,rfl⟩,⟨o0 ?_,o0 ?_,trivial⟩,trivial⟩) (fun ⟨k,hk⟩=>?_);rotate_right;conv=>whnf)|(refine b6 (⟨k + 1, ?_⟩ : {k : Nat // k <= s.size /\ s.size <= 8 /\ kB s k = true}) ?_ (SubP.sub (σ := []) ⟨⟨rfl,rfl,rfl⟩,⟨o0 ?_,o0 ?_,trivial⟩,trivial⟩)))
  all_goals repeat clear hK K1
  all_goals first|(exact absurd (show false = true by with_reducible assumption) (by decide))|exact db_eq (qcp (.inl asmR))|exact db_eq (qcp (.inr asmR))|exact db_eq (qkx hk asmR asmR)|exact di_eq (rfl : ((0 : Nat) : Int) = 0)|exact di_eq (by rw [j3 omG omG];omega)|omega|(dsimp only;omega)|(have e : ((s.data.toList.getD (k : Int).toNat 0).toNat : Int) = xA s k := rfl;simp only [e,decide_eq_true_eq,decide_eq_false_iff_not] at *;first|exact ⟨by omega,by omega,uV hk.2.2 omG⟩|exact uV hk.2.2 omG|exact db_eq (qco asmR omG))|skip
theorem qmc (op : Int) : CallsV Tryz.prog 167 [.dat (.i op)] (.dat (.i (nA op))) := by
  refine oV Tryz.func167 ⟨?_⟩
  repeat' (first|((with_reducible refine fun (K1 : KT) hK=>?_);refine w5 ⟨?_⟩)|((with_reducible show K1 _ _);subst hK;conv=>whnf)|refine st0 ⟨?_⟩|((with_reducible refine SplS.mk (fun h=>?_) (fun h=>?_)) <;> first|exact o4|(subst h;conv=>whnf)|(conv=>whnf)))
  all_goals repeat clear hK K1
  all_goals exact di_eq (by unfold nA;(repeat' split) <;> omega)
theorem qlp (op w n : Int) (nm : ByteArray) (ks : List V.Term) (hl : (ks.length : Int) = nA op) (hw : inP w 1 16 = true) (hk : ks.all (fun k=>inP k.w 1 16) = true) : CallsV Tryz.prog 168 [.agg [.dat (.i op),.dat (.i w),.dat (.i n),.dat (.str nm),.dat (.seq .terms ks)]] (.dat (.bool (qA op w n ks))) := by
  refine oV Tryz.func168 ⟨?_⟩
  repeat' (first|((with_reducible refine fun (K1 : KT) hK=>?_);refine w5 ⟨?_⟩)|((with_reducible show K1 _ _);subst hK;conv=>whnf)|refine st0 ⟨?_⟩|((with_reducible refine SplS.mk (fun h=>?_) (fun h=>?_)) <;> first|exact o4|(subst h;conv=>whnf)|(conv=>whnf))|refine f2 ⟨?_⟩ ⟨?_⟩|fail)
  all_goals repeat clear hK K1
  all_goals (first|(have q := qdm hl;omega)|skip)
  all_goals (refine db_eq ?_)
  all_goals (have e0 : ks.getD (Int.toNat 0) K.terms.dflt = kAt ks 0 := rfl;have e1 : ks.getD (Int.toNat 1) K.terms.dflt = kAt ks 1 := rfl;have e2 : ks.getD (Int.toNat 2) K.terms.dflt = kAt ks 2 := rfl;simp only [e0,e1,e2] at *;clear e0 e1 e2;have q := qdm hl;have hw' := nF hw;have p0 := fun h=>iW (i := 0) hk h;have p1 := fun h=>iW (i := 1) hk h)
  all_goals (try rw [j3 omG omG])
  all_goals (rw [Bool.eq_iff_iff];unfold qA;generalize (kAt ks 0).w = x0 at *;generalize (kAt ks 1).w = x1 at *;generalize (kAt ks 2).w = x2 at *;(repeat' split) <;> first|omega|(simp;done)|(simp;omega))
/-! ### variables are noted -/
theorem v_no {s : ByteArray} {w : Int} {q : TC} (h : isNameP s = false) : n8 s w q = (false,q) := if_neg (by rw [h];decide)
theorem v_hit {s : ByteArray} {w : Int} {q : TC} (h : isNameP s = true) (hg : (mget q.m s).isSome = true) : n8 s w q = ((mget q.m s).getD 0 == w,⟨q.c,q.m,false⟩) := by
  unfold n8
  rw [if_pos h]
  cases e : mget q.m s with
  | none=>rw [e] at hg;cases hg
  | some x=>simp only [Option.getD_some];congr 1
theorem v_new {s : ByteArray} {w : Int} {q : TC} (h : isNameP s = true) (hg : (mget q.m s).isSome = false) : n8 s w q = (true,⟨q.c,y8 q.m s w,false⟩) := by
  unfold n8
  rw [if_pos h]
  cases e : mget q.m s with
  | none=>rfl
  | some x=>rw [e] at hg;cases hg
theorem xP {c c' : Int} {m m' : List (ByteArray × Int)} {z z' : Bool} {i : Nat} (hc : c = c') (h : m = m') (hz : z = z') : [Blk.box [.dat (.int .i64 c),.mp i],.mp m z] = [Blk.box [.dat (.i c'),.mp i],.mp m' z'] := by rw [h,hz,hc]
theorem yM {b b' : Bool} (h : b = b') : AV.dat (Dat.bool b) = AV.dat (Dat.bool b') := by rw [h]
theorem eN {c : Int} {m m' : List (ByteArray × Int)} {z z' : Bool} {i : Nat} (h : m = m') (hz : z = z') : [Blk.box [.dat (.i c),.mp i],.mp m z] = [Blk.box [.dat (.i c),.mp i],.mp m' z'] := by rw [h,hz]
theorem qn5 (op w n : Int) (nm : ByteArray) (ks : List V.Term) (c : Int) (m : List (ByteArray × Int)) (z : Bool) (hz : z = true -> m = []) : CallsG Tryz.prog 169 [.ptr 0 0,.agg [.dat (.i op),.dat (.i w),.dat (.i n),.dat (.str nm),.dat (.seq .terms ks)]] [.box [.dat (.i c),.mp 1],.mp m z] 1 (fun res B=>res = .dat (.bool (n8 nm w ⟨c,m,z⟩).1) /\ B = [.box [.dat (.i c),.mp 1],.mp (n8 nm w ⟨c,m,z⟩).2.m (n8 nm w ⟨c,m,z⟩).2.z]) := by
  refine oG Tryz.func169 ⟨?_⟩
  repeat' (first|((with_reducible refine fun (K1 : KT) hK=>?_);refine w5 ⟨?_⟩)|((with_reducible show K1 _ _);subst hK;conv=>whnf)|(with_reducible exact rfl)|refine st0 ⟨?_⟩|((with_reducible refine SplS.mk (fun h=>?_) (fun h=>?_)) <;> first|exact yC|(conv=>whnf))|refine f2 ⟨?_⟩ ⟨?_⟩|refine vP (xW ..) ⟨?_⟩|fail)
  all_goals repeat clear hK K1
  all_goals first|(with_reducible assumption)|(have e := v_no (w := w) (q := ⟨c,m,z⟩) (show isNameP nm = false by with_reducible assumption);first|exact congrArg (fun b=>AV.dat (Dat.bool b)) (by rw [e])|exact eN (by rw [e]) (by rw [e]))|(have hm := hz asmR;subst hm;first|(have e := v_hit (w := w) (q := ⟨c,[],z⟩) (show isNameP nm = true by with_reducible assumption) asmR;first|exact congrArg (fun b=>AV.dat (Dat.bool b)) (by rw [e])|exact eN (by rw [e]) (by rw [e]))|(have e := v_new (w := w) (q := ⟨c,[],z⟩) (show isNameP nm = true by with_reducible assumption) asmR;first|exact congrArg (fun b=>AV.dat (Dat.bool b)) (by rw [e])|exact eN (by rw [e]) (by rw [e])))|(have e := v_hit (w := w) (q := ⟨c,m,z⟩) (show isNameP nm = true by with_reducible assumption) asmR;have ez : z = false := asmR;first|exact congrArg (fun b=>AV.dat (Dat.bool b)) (by rw [e])|exact eN (by rw [e]) (by rw [e];exact ez))|(have e := v_new (w := w) (q := ⟨c,m,z⟩) (show isNameP nm = true by with_reducible assumption) asmR;have ez : z = false := asmR;first|exact congrArg (fun b=>AV.dat (Dat.bool b)) (by rw [e])|exact eN (by rw [e]) (by rw [e];exact ez))|skip
/-! ### a node and all below it -/
structure IHNode (t : V.Term) : Prop where
  call : ∀ (op w n : Int) (nm : ByteArray) (ks : List V.Term) (c : Int) (m : List (ByteArray × Int)) (z : Bool),(z = true -> m = []) -> 0 <= c /\ c <= 240 -> sizeT ⟨op,w,n,nm,ks⟩ < sizeT t ->
    CallsG Tryz.prog 139 [.ptr 0 0,.agg [.dat (.i op),.dat (.i w),.dat (.i n),.dat (.str nm),.dat (.seq .terms ks)]] [.box [.dat (.i c),.mp 1],.mp m z] 1
      (fun res B=>res = .dat (.bool (nodeF ⟨op,w,n,nm,ks⟩ ⟨c,m,z⟩).1) /\ B = [.box [.dat (.i (nodeF ⟨op,w,n,nm,ks⟩ ⟨c,m,z⟩).2.c),.mp 1],.mp (nodeF ⟨op,w,n,nm,ks⟩ ⟨c,m,z⟩).2.m (nodeF ⟨op,w,n,nm,ks⟩ ⟨c,m,z⟩).2.z])
theorem ih_node {t : V.Term} (ih : IHNode t) {op w n : Int} {nm : ByteArray} {ks : List V.Term} {c : Int} {m : List (ByteArray × Int)} {z : Bool} (hz : z = true -> m = []) (hc : 0 <= c /\ c <= 240) (hs : sizeT ⟨op,w,n,nm,ks⟩ < sizeT t) :
    CallsG Tryz.prog 139 [.ptr 0 0,.agg [.dat (.i op),.dat (.i w),.dat (.i n),.dat (.str nm),.dat (.seq .terms ks)]] [.box [.dat (.i c),.mp 1],.mp m z] 1
      (fun res B=>res = .dat (.bool (nodeF ⟨op,w,n,nm,ks⟩ ⟨c,m,z⟩).1) /\ B = [.box [.dat (.i (nodeF ⟨op,w,n,nm,ks⟩ ⟨c,m,z⟩).2.c),.mp 1],.mp (nodeF ⟨op,w,n,nm,ks⟩ ⟨c,m,z⟩).2.m (nodeF ⟨op,w,n,nm,ks⟩ ⟨c,m,z⟩).2.z]) := ih.call op w n nm ks c m z hz hc hs
noncomputable def q0 (t : V.Term) (q : TC) : TC := if t.op = 22 then (n8 t.name t.w ⟨q.c + 1,q.m,q.z⟩).2 else ⟨q.c + 1,q.m,q.z⟩
theorem rV (t : V.Term) (q : TC) : nodeF t q = if q.c + 1 <= 240 /\ lD t.op t.w t.n t.name t.kids = true then
      if t.op = 22 then if (n8 t.name t.w ⟨q.c + 1,q.m,q.z⟩).1 = true then u7 t.kids (n8 t.name t.w ⟨q.c + 1,q.m,q.z⟩).2 else (false,(n8 t.name t.w ⟨q.c + 1,q.m,q.z⟩).2)
      else u7 t.kids ⟨q.c + 1,q.m,q.z⟩
    else (false,⟨q.c + 1,q.m,q.z⟩) := by cases t;rw [nodeF]
theorem dI {t : V.Term} {q : TC} (h : ¬ (q.c + 1 <= 240 /\ lD t.op t.w t.n t.name t.kids = true)) : nodeF t q = (false,⟨q.c + 1,q.m,q.z⟩) := by rw [rV,if_neg h]
theorem rC {op w n : Int} {nm : ByteArray} {ks : List V.Term} : lD op w n nm ks = true ↔ NodeOk op w n nm ks := by unfold lD;exact @decide_eq_true_iff _ (Classical.propDecidable _)
section
variable {t : V.Term} {q : TC}
theorem nF_c (h : ¬ q.c + 1 <= 240) : nodeF t q = (false,⟨q.c + 1,q.m,q.z⟩) := dI fun k=>h k.1
theorem nF_w (h : inP t.w 1 16 = false) : nodeF t q = (false,⟨q.c + 1,q.m,q.z⟩) := dI fun k=>by have := (rC.1 k.2).width;rw [h] at this;cases this
theorem nF_len (h : ¬ (t.kids.length : Int) = nA t.op) : nodeF t q = (false,⟨q.c + 1,q.m,q.z⟩) := dI fun k=>h (rC.1 k.2).len
theorem nF_kw {i : Nat} (hi : (i : Int) < t.kids.length) (h : inP (t.kids.getD (i : Int).toNat K.terms.dflt).w 1 16 = false) : nodeF t q = (false,⟨q.c + 1,q.m,q.z⟩) := dI fun k=>by
  have := iW (rC.1 k.2).kw (i := i) omG
  have h2 : inP (kAt t.kids i).w 1 16 = true := by
    unfold inP
    simp only [Bool.and_eq_true,decide_eq_true_eq]
    exact this
  have h3 : true = false := h2.symm.trans h
  cases h3
theorem nF_fit (h : qA t.op t.w t.n t.kids = false) : nodeF t q = (false,⟨q.c + 1,q.m,q.z⟩) := dI fun k=>by have := (rC.1 k.2).fit;rw [h] at this;cases this
theorem nF_k (ho : t.op = 0) (h : wordP t.w t.n = false) : nodeF t q = (false,⟨q.c + 1,q.m,q.z⟩) := dI fun k=>by have := (rC.1 k.2).const ho;rw [h] at this;cases this
theorem nF_n (ho : ¬ t.op = 0) (h9 : ¬ t.op = 19) (h : ¬ t.n = 0) : nodeF t q = (false,⟨q.c + 1,q.m,q.z⟩) := dI fun k=>h ((rC.1 k.2).num ho h9)
theorem nF_nm (ho : ¬ t.op = 22) (h : (t.name.toList == (⟨#[]⟩ : ByteArray).toList) = false) : nodeF t q = (false,⟨q.c + 1,q.m,q.z⟩) := dI fun k=>bQ h ((rC.1 k.2).nam ho)
theorem nB_of (h1 : inP t.w 1 16 = true) (h2 : (t.kids.length : Int) = nA t.op) (h3 : t.kids.all (fun k=>inP k.w 1 16) = true) (h4 : qA t.op t.w t.n t.kids = true) (h5 : t.op = 0 -> wordP t.w t.n = true) (h6 : t.op ≠ 0 -> t.op ≠ 19 -> t.n = 0) (h7 : t.op ≠ 22 -> t.name = ByteArray.empty) :
    lD t.op t.w t.n t.name t.kids = true := rC.2 ⟨h1,h2,h3,h4,h5,h6,h7⟩
theorem nF_v (hc : q.c + 1 <= 240) (hb : lD t.op t.w t.n t.name t.kids = true) (ho : t.op = 22) (h : (n8 t.name t.w ⟨q.c + 1,q.m,q.z⟩).1 = false) : nodeF t q = (false,(n8 t.name t.w ⟨q.c + 1,q.m,q.z⟩).2) := by
  rw [rV,if_pos ⟨hc,hb⟩,if_pos ho,if_neg (by rw [h];decide)]
theorem nF_y (hc : q.c + 1 <= 240) (hb : lD t.op t.w t.n t.name t.kids = true) (h : t.op = 22 -> (n8 t.name t.w ⟨q.c + 1,q.m,q.z⟩).1 = true) : nodeF t q = u7 t.kids (q0 t q) := by
  rw [rV,if_pos ⟨hc,hb⟩]
  unfold q0
  by_cases ho : t.op = 22
  . rw [if_pos ho,if_pos ho,if_pos (h ho)]
  . rw [if_neg ho,if_neg ho]
theorem q0_v (ho : t.op = 22) : q0 t q = (n8 t.name t.w ⟨q.c + 1,q.m,q.z⟩).2 := if_pos ho
theorem q0_n (ho : ¬ t.op = 22) : q0 t q = ⟨q.c + 1,q.m,q.z⟩ := if_neg ho
theorem q0_c : (q0 t q).c = q.c + 1 := by
  unfold q0
  split
  . exact qab _ _ _
  . rfl
theorem q0_z (h : q.z = true -> q.m = []) : (q0 t q).z = true -> (q0 t q).m = [] := by
  unfold q0
  split
  . exact qaa h
  . exact h
end
structure KidI (t : V.Term) (q : TC) (i : Nat) : Prop where
  le : i <= t.kids.length
  so : (r8 t.kids (q0 t q) i).1 = true
  bd : 0 <= (r8 t.kids (q0 t q) i).2.c /\ (r8 t.kids (q0 t q) i).2.c <= 240
  eq : nodeF t q = u7 t.kids (q0 t q)
theorem kidI_0 {t : V.Term} {c : Int} {m : List (ByteArray × Int)} {z : Bool} (h0 : 0 <= c) (hc : c + 1 <= 240) (hb : lD t.op t.w t.n t.name t.kids = true) (h : t.op = 22 -> (n8 t.name t.w ⟨c + 1,m,z⟩).1 = true) : KidI t ⟨c,m,z⟩ 0 := by
  refine ⟨Nat.zero_le _,by rw [mW], ?_,nF_y hc hb h⟩
  rw [mW,q0_c]
  simp only
  omega
theorem qks {t : V.Term} {q : TC} (h : (nodeF t q).1 = true) : (nodeF t q).2.c <= 240 /\ q.c <= (nodeF t q).2.c := by
  obtain ⟨h1,_,_,h4⟩ := (qV t q).yes h
  omega
theorem w1 {c : Int} (hc : 0 <= c /\ c <= 240) : IntKind.i64.wrap (c + 1) = c + 1 := j3 omG omG
abbrev kE (ks : List V.Term) (i : Nat) : V.Term := ⟨(ks.getD (i : Int).toNat K.terms.dflt).op,(ks.getD (i : Int).toNat K.terms.dflt).w,(ks.getD (i : Int).toNat K.terms.dflt).n,(ks.getD (i : Int).toNat K.terms.dflt).name,(ks.getD (i : Int).toNat K.terms.dflt).kids⟩
theorem nD (ks : List V.Term) (i : Nat) : kE ks i = kAt ks i := V.Term.eta _
abbrev tE (q : TC) : TC := ⟨q.c,q.m,q.z⟩
theorem qdn {t : V.Term} {q : TC} {i : Nat} (h : KidI t q i) (hi : (i : Int) < t.kids.length) (hy : (nodeF (kE t.kids i) (tE (r8 t.kids (q0 t q) i).2)).1 = true) : KidI t q (i + 1) /\ r8 t.kids (q0 t q) (i + 1) = nodeF (kE t.kids i) (tE (r8 t.kids (q0 t q) i).2) := by
  rw [nD] at hy ⊢
  have e := kTo_s omG h.so
  have hy' : (nodeF (kAt t.kids i) (r8 t.kids (q0 t q) i).2).1 = true := hy
  have hb := qks hy'
  have := h.bd
  exact ⟨⟨by omega,by rw [e];exact hy,by rw [e];omega,h.eq⟩,e⟩
theorem kidI_e {t : V.Term} {q : TC} {i : Nat} (h : KidI t q i) (hi : ¬ (i : Int) < t.kids.length) : nodeF t q = (true,(r8 t.kids (q0 t q) i).2) := by
  rw [h.eq,<- kTo_end (i := i) omG]
  exact Prod.ext h.so rfl
theorem kidI_n {t : V.Term} {q : TC} {i : Nat} (h : KidI t q i) (hi : (i : Int) < t.kids.length) (hn : (nodeF (kE t.kids i) (tE (r8 t.kids (q0 t q) i).2)).1 = false) : nodeF t q = (false,(nodeF (kE t.kids i) (tE (r8 t.kids (q0 t q) i).2)).2) := by
  rw [nD] at hn ⊢
  have e := kTo_s omG h.so
  rw [h.eq,kTo_no (i := i + 1) (by rw [e];exact hn),e]
  exact Prod.ext hn rfl
theorem kw_s {ks : List V.Term} {i : Nat} (h : i <= ks.length /\ (ks.take i).all (fun k=>inP k.w 1 16) = true) (hi : (i : Int) < ks.length) (hw : inP (ks.getD (i : Int).toNat K.terms.dflt).w 1 16 = true) : i + 1 <= ks.length /\ (ks.take (i + 1)).all (fun k=>inP k.w 1 16) = true := by
  have hl : i < ks.length := by omega
  refine ⟨hl, ?_⟩
  have e : ks.getD (i : Int).toNat K.terms.dflt = ks[i] := by rw [Int.toNat_natCast,List.getD_eq_getElem?_getD,List.getElem?_eq_getElem hl];rfl
  rw [e] at hw
  rw [List.take_add_one,List.getElem?_eq_getElem hl,List.all_append,h.2]
  simp [hw]
theorem kw_e {ks : List V.Term} {i : Nat} (h : i <= ks.length /\ (ks.take i).all (fun k=>inP k.w 1 16) = true) (hi : ¬ (i : Int) < ks.length) : ks.all (fun k=>inP k.w 1 16) = true := by
  have := h.2
  rwa [List.take_of_length_le omG] at this
theorem gJ {t : V.Term} {i : Nat} (h : (i : Int) < t.kids.length) : sizeT (t.kids.getD (i : Int).toNat K.terms.dflt) < sizeT t := by
  have := qir (op := t.op) (w := t.w) (n := t.n) (nm := t.name) (ks := t.kids) (i := i) omG
  rwa [V.Term.eta] at this
theorem c_node0 (t : V.Term) (c : Int) (m : List (ByteArray × Int)) (z : Bool) (ih : IHNode t) (hz : z = true -> m = []) (hc : 0 <= c /\ c <= 240) : CallsG Tryz.prog 139 [.ptr 0 0,.agg [.dat (.i t.op),.dat (.i t.w),.dat (.i t.n),.dat (.str t.name),.dat (.seq .terms t.kids)]] [.box [.dat (.i c),.mp 1],.mp m z] 1 (fun res B=>res = .dat (.bool (nodeF t ⟨c,m,z⟩).1) /\ B = [.box [.dat (.i (nodeF t ⟨c,m,z⟩).2.c),.mp 1],.mp (nodeF t ⟨c,m,z⟩).2.m (nodeF t ⟨c,m,z⟩).2.z]) := by
  refine oG Tryz.func139 ⟨?_⟩
  repeat' (first|((with_reducible refine fun (K1 : KT) hK=>?_);refine w5 ⟨?_⟩)|((with_reducible show K1 _ _);subst hK;conv=>whnf)|(with_reducible exact rfl)|refine st0 ⟨?_⟩|((with_reducible refine SplS.mk (fun h=>?_) (fun h=>?_)) <;> first|exact u5|((fail_if_success (have _x : @Eq Bool _ _ := h));subst h;conv=>whnf)|(conv=>whnf))|refine f2 ⟨?_⟩ ⟨?_⟩|(refine y5 ({i : Nat // KidI t ⟨c,m,z⟩ i}) (fun ⟨i,hi⟩=>x5 Tryz.f139.ntmps [(0,.ptr 900000 0),(3,.ptr 3 0),(88,.dat (.i t.kids.length)),(89,.dat (.i i))] [(900000,.box [.dat (.i (r8 t.kids (q0 t ⟨c,m,z⟩) i).2.c),.mp 101]),(101,.mp (r8 t.kids (q0 t ⟨c,m,z⟩) i).2.m (r8 t.kids (q0 t ⟨c,m,z⟩) i).2.z),(3,.box [.dat (.i t.op),.dat (.i t.w),.dat (.i t.n),.dat (.str t.name),.dat (.seq .terms t.kids)])]) (fun ⟨i,hi⟩=>t.kids.length - i) ⟨0, ?_⟩ (SubP.sub (σ := [(900000,some 900000),(101,some 900001),(3,some 3)]) ⟨⟨rfl,rfl,rfl⟩,⟨rr,rr,o0 ?_,o0 ?_,trivial⟩,⟨⟨j0 ?_,rfl,trivial⟩,⟨?_, ?_⟩,⟨j0 ?_,j0 ?_,j0 ?_,j0 ?_,j0 ?_,trivial⟩,trivial⟩⟩) (fun ⟨i,hi⟩=>?_);rotate_right;conv=>whnf)|(refine y5 ({i : Nat // KidI t ⟨c,m,z⟩ i}) (fun ⟨i,hi⟩=>x5 Tryz.f139.ntmps [(0,.ptr 900000 0),(3,.ptr 3 0),(88,.dat (.i t.kids.length)),(89,.dat (.i i))] [(900000,.box [.dat (.i (r8 t.kids (q0 t ⟨c,m,z⟩) i).2.c),.mp 101]),(101,.mp (r8 t.kids (q0 t ⟨c,m,z⟩) i).2.m (r8 t.kids (q0 t ⟨c,m,z⟩) i).2.z),(3,.box [.dat (.i t.op),.dat (.i t.w),.dat (.i t.n),.dat (.str t.name),.dat (.seq .terms t.kids)])]) (fun ⟨i,hi⟩=>t.kids.length - i) ⟨0, ?_⟩ (SubP.sub (σ := [(900000,some 900000),(101,some 85001),(3,some 3)]) ⟨⟨rfl,rfl,rfl⟩,⟨rr,rr,o0 ?_,o0 ?_,trivial⟩,⟨⟨j0 ?_,rfl,trivial⟩,⟨?_, ?_⟩,⟨j0 ?_,j0 ?_,j0 ?_,j0 ?_,j0 ?_,trivial⟩,trivial⟩⟩) (fun ⟨i,hi⟩=>?_);rotate_right;conv=>whnf)|(refine b6 (⟨i + 1, ?_⟩ : {i : Nat // KidI t ⟨c,m,z⟩ i}) ?_ (SubP.sub (σ := [(900000,some 900000),(101,some 99001),(3,some 3)]) ⟨⟨rfl,rfl,rfl⟩,⟨rr,rr,o0 ?_,o0 ?_,trivial⟩,⟨⟨j0 ?_,rfl,trivial⟩,⟨?_, ?_⟩,⟨j0 ?_,j0 ?_,j0 ?_,j0 ?_,j0 ?_,trivial⟩,trivial⟩⟩))|(refine y5 ({i : Nat // i <= t.kids.length /\ (t.kids.take i).all (fun k=>inP k.w 1 16) = true}) (fun ⟨i,hi⟩=>x5 Tryz.f139.ntmps [(0,.ptr 900000 0),(3,.ptr 3 0),(36,.dat (.i t.kids.length)),(37,.dat (.i i))] [(900000,.box [.dat (.i (c + 1)),.mp 900001]),(900001,.mp m z),(3,.box [.dat (.i t.op),.dat (.i t.w),.dat (.i t.n),.dat (.str t.name),.dat (.seq .terms t.kids)])]) (fun ⟨i,hi⟩=>t.kids.length - i) ⟨0,⟨Nat.zero_le _,rfl⟩⟩ (SubP.sub (σ := [(900000,some 900000),(900001,some 900001),(3,some 3)]) ⟨⟨rfl,rfl,rfl⟩,⟨rr,rr,o0 ?_,o0 ?_,trivial⟩,⟨⟨j0 ?_,rfl,trivial⟩,⟨?_, ?_⟩,⟨j0 ?_,j0 ?_,j0 ?_,j0 ?_,j0 ?_,trivial⟩,trivial⟩⟩) (fun ⟨i,hi⟩=>?_);rotate_right;conv=>whnf)|(refine b6 (⟨i + 1, ?_⟩ : {i : Nat // i <= t.kids.length /\ (t.kids.take i).all (fun k=>inP k.w 1 16) = true}) ?_ (SubP.sub (σ := [(900000,some 900000),(900001,some 900001),(3,some 3)]) ⟨⟨rfl,rfl,rfl⟩,⟨rr,rr,o0 ?_,o0 ?_,trivial⟩,⟨⟨j0 ?_,rfl,trivial⟩,⟨?_, ?_⟩,⟨j0 ?_,j0 ?_,j0 ?_,j0 ?_,j0 ?_,trivial⟩,trivial⟩⟩))|refine vS (qL ..) ⟨?_⟩|refine vE (qmc ..) ⟨?_⟩|refine vP (qlp (hl := ?_) (hw := ?_) (hk := ?_) ..) ⟨?_⟩|refine vP (bE ..) ⟨?_⟩|refine gS (qn5 (hz := ?_) ..) ⟨?_⟩|refine gS (ih_node (ih := by assumption) (hz := ?_) (hc := ?_) (hs := ?_) ..) ⟨?_⟩|(intro h;conv=>whnf))
  all_goals repeat clear hK K1
  all_goals first|(with_reducible assumption)|omega|exact di_eq (rfl : ((0 : Nat) : Int) = 0)|(refine di_eq ?_;rw [j3 omG omG];done)|(have hm : maxLen = 9223372036854775807 := rfl;refine di_eq ?_;rw [j3 omG omG];omega)|(dsimp only;omega)|exact hz asmR|exact (kTo_z (q0_z (q := ⟨c,m,z⟩) hz)) asmR|exact hi.bd.1|exact hi.bd.2|(rw [V.Term.eta];exact gJ asmR)|exact (kw_s hi asmR asmR).2|exact kw_e hi asmR|exact kidI_0 hc.1 (by have ew := w1 hc;omega) (nB_of asmR asmR (kw_e hi asmR) asmR (fun e=>(by first|(with_reducible assumption)|exact absurd e asmR)) (fun e1 e2=>(by first|(with_reducible assumption)|exact absurd asmR e1|exact absurd asmR e2)) (fun e=>(by first|exact yT asmR|exact absurd asmR e))) (fun e=>(by first|(with_reducible assumption)|exact absurd e asmR))|(rw [mW];first|exact di_eq q0_c|exact congrArg TC.m (q0_n asmR)|exact congrArg TC.z (q0_n asmR)|exact congrArg TC.m (q0_v asmR)|exact congrArg TC.z (q0_v asmR))|(have e : nodeF t ⟨c,m,z⟩ = (false,⟨c + 1,m,z⟩) := (by first|exact nF_c (q := ⟨c,m,z⟩) (by have ew := w1 hc;simp only;omega)|exact nF_w asmR|exact nF_len asmR|exact nF_kw asmR asmR|exact nF_fit asmR|exact nF_k asmR asmR|exact nF_n asmR asmR asmR|exact nF_nm asmR asmR);first|(refine yM ?_;rw [e])|(refine xP ?_ ?_ ?_ <;> (rw [e];try exact j3 omG omG)))|(have e := nF_v (q := ⟨c,m,z⟩) (by have ew := w1 hc;simp only;omega) (nB_of asmR asmR (kw_e hi asmR) asmR (fun e=>(by first|(with_reducible assumption)|exact absurd e asmR)) (fun e1 e2=>(by first|(with_reducible assumption)|exact absurd asmR e1|exact absurd asmR e2)) (fun e=>(by first|exact yT asmR|exact absurd asmR e))) asmR asmR;first|(refine yM ?_;rw [e])|(refine xP ?_ ?_ ?_ <;> (rw [e];try exact (qab t.name t.w ⟨c + 1,m,z⟩).symm)))|(have e := kidI_e hi asmR;first|(refine yM ?_;rw [e])|(refine xP ?_ ?_ ?_ <;> rw [e]))|exact (qdn hi asmR asmR).1|(rw [(qdn hi asmR asmR).2])|(have e := kidI_n hi asmR asmR;first|(refine yM ?_;rw [e])|(refine xP ?_ ?_ ?_ <;> rw [e]))|skip
theorem c_node (op w n : Int) (nm : ByteArray) (ks : List V.Term) (c : Int) (m : List (ByteArray × Int)) (z : Bool) (hz : z = true -> m = []) (hc : 0 <= c /\ c <= 240) :
    CallsG Tryz.prog 139 [.ptr 0 0,.agg [.dat (.i op),.dat (.i w),.dat (.i n),.dat (.str nm),.dat (.seq .terms ks)]] [.box [.dat (.i c),.mp 1],.mp m z] 1
      (fun res B=>res = .dat (.bool (nodeF ⟨op,w,n,nm,ks⟩ ⟨c,m,z⟩).1) /\ B = [.box [.dat (.i (nodeF ⟨op,w,n,nm,ks⟩ ⟨c,m,z⟩).2.c),.mp 1],.mp (nodeF ⟨op,w,n,nm,ks⟩ ⟨c,m,z⟩).2.m (nodeF ⟨op,w,n,nm,ks⟩ ⟨c,m,z⟩).2.z]) := by
  have key : ∀ (k : Nat) (t : V.Term) (c : Int) (m : List (ByteArray × Int)) (z : Bool),sizeT t < k -> (z = true -> m = []) -> 0 <= c /\ c <= 240 ->
      CallsG Tryz.prog 139 [.ptr 0 0,.agg [.dat (.i t.op),.dat (.i t.w),.dat (.i t.n),.dat (.str t.name),.dat (.seq .terms t.kids)]] [.box [.dat (.i c),.mp 1],.mp m z] 1
        (fun res B=>res = .dat (.bool (nodeF t ⟨c,m,z⟩).1) /\ B = [.box [.dat (.i (nodeF t ⟨c,m,z⟩).2.c),.mp 1],.mp (nodeF t ⟨c,m,z⟩).2.m (nodeF t ⟨c,m,z⟩).2.z]) := by
    intro k
    induction k with
    | zero=>intro t _ _ _ h;omega
    | succ k ih =>
      intro t c m z h hz hc
      exact c_node0 t c m z ⟨fun op w n nm ks c' m' z' hz' hc' hs=>ih ⟨op,w,n,nm,ks⟩ c' m' z' omG hz' hc'⟩ hz hc
  exact key _ ⟨op,w,n,nm,ks⟩ c m z (Nat.lt_succ_self _) hz hc
theorem c_nodeN (op w n : Int) (nm : ByteArray) (ks : List V.Term) :
    CallsG Tryz.prog 139 [.ptr 0 0,.agg [.dat (.i op),.dat (.i w),.dat (.i n),.dat (.str nm),.dat (.seq .terms ks)]] [.box [.dat (.i 0),.nilm]] 1
      (fun res B=>res = .dat (.bool (nodeF ⟨op,w,n,nm,ks⟩ ⟨0,[],true⟩).1) /\ B = [.box [.dat (.i (nodeF ⟨op,w,n,nm,ks⟩ ⟨0,[],true⟩).2.c),.mp 1],.mp (nodeF ⟨op,w,n,nm,ks⟩ ⟨0,[],true⟩).2.m (nodeF ⟨op,w,n,nm,ks⟩ ⟨0,[],true⟩).2.z]) :=
  (c_node op w n nm ks 0 [] true (fun _=>rfl) (by decide)).nilm rfl
theorem vR (op w n : Int) (nm : ByteArray) (ks : List V.Term) : CallsV Tryz.prog 109 [.agg [.dat (.i op),.dat (.i w),.dat (.i n),.dat (.str nm),.dat (.seq .terms ks)]] (.dat (.bool (i7 ⟨op,w,n,nm,ks⟩))) := by
  refine oV Tryz.func109 ⟨?_⟩
  repeat' (first|((with_reducible refine fun (K1 : KT) hK=>?_);refine w5 ⟨?_⟩)|((with_reducible show K1 _ _);subst hK;conv=>whnf)|refine st0 ⟨?_⟩|refine gS (c_nodeN ..) ⟨?_⟩|fail)
  all_goals repeat clear hK K1
  all_goals first|exact congrArg Dat.bool (qn2 _).symm|skip
end Vg
