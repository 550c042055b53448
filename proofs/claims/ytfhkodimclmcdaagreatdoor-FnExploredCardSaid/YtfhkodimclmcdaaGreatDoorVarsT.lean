/- The variables of a term are collected: contracts. Condition: the term is good. -/
import Derived.Test.YtfhkodimclmcdaaGreatDoorTermI
import Derived.Test.YtfhkodimclmcdaaGreatDoorTermS
import Derived.Test.YtfhkodimclmcdaaGreatDoorRg
import Derived.Test.YtfhkodimclmcdaaGreatDoorRet
import Derived.Test.YtfhkodimclmcdaaGreatDoorBase
import Derived.Test.YtfhkodimclmcdaaGreatDoorRedQ
import Derived.Laws.Cover1
namespace Vg
open Go Go.Proofs
set_option maxRecDepth 100000
set_option maxHeartbeats 40000000
theorem vT_eq (t : V.Term) : varsT t = if t.op = 22 then (t.name,t.w) :: l7 t.kids else l7 t.kids := by cases t;rw [varsT]
theorem qad : ∀ {l : List V.Term} {i : Nat} {v : ByteArray × Int},v ∈ varsT (l.getD i K.terms.dflt) -> v ∈ l7 l
  | [],i,v,h=>by
    have e : ([] : List V.Term).getD i K.terms.dflt = K.terms.dflt := by cases i <;> rfl
    rw [e] at h
    have : varsT K.terms.dflt = [] := by show varsT ⟨0,0,0,ByteArray.empty,[]⟩ = [];rw [varsT,if_neg (by decide),l7]
    rw [this] at h
    cases h
  | t :: ts,0,v,h=>by rw [l7];exact List.mem_append_left _ h
  | t :: ts,i + 1,v,h=>by rw [l7];exact List.mem_append_right _ (qad (l := ts) (i := i) h)
theorem kidV {t : V.Term} {i : Nat} {v : ByteArray × Int} (h : v ∈ varsT (t.kids.getD i K.terms.dflt)) : v ∈ varsT t := by
  have := qad h
  rw [vT_eq]
  split
  . exact List.mem_cons_of_mem _ this
  . exact this
theorem qbg : ∀ a b : List V.Term,g6 (a ++ b) = g6 a + g6 b
  | [],b=>by rw [List.nil_append,g6,Nat.zero_add]
  | t :: a,b=>by rw [List.cons_append,g6,g6,qbg a b,Nat.add_assoc]
structure CvI (m m' : List (ByteArray × Int)) (t : V.Term) : Prop where
  h : ∀ p,p ∈ m' -> p ∈ m \/ p ∈ varsT t
  len : m'.length <= m.length + sizeT t
structure CvK (m m' : List (ByteArray × Int)) (t : V.Term) (k : Nat) : Prop where
  h : ∀ p,p ∈ m' -> p ∈ m \/ p ∈ varsT t
  len : m'.length <= m.length + 1 + g6 (t.kids.take k)
theorem cv_0 (m : List (ByteArray × Int)) (t : V.Term) : CvK m m t 0 := ⟨fun _ h => .inl h,by omega⟩
theorem qkz {l : List (ByteArray × Int)} {s : ByteArray} {v : Int} {p : ByteArray × Int} (h : p ∈ y8 l s v) : p ∈ l \/ p = (s,v) := by
  unfold y8 at h
  split at h
  . rcases List.mem_append.1 h with h|h
    . exact .inl h
    . exact .inr (List.mem_singleton.1 h)
  . rcases List.mem_or_eq_of_mem_set h with h|h
    . exact .inl h
    . exact .inr h
theorem qk0 (l : List (ByteArray × Int)) (s : ByteArray) (v : Int) : (y8 l s v).length <= l.length + 1 := by
  unfold y8
  split
  . rw [List.length_append,List.length_singleton];omega
  . rw [List.length_set];omega
theorem cv_set {m : List (ByteArray × Int)} {t : V.Term} (ho : t.op = 22) : CvK m (y8 m t.name t.w) t 0 := ⟨fun p h=>(qkz h).imp id fun e=>by rw [e,vT_eq,if_pos ho];exact List.mem_cons_self ..,by have := qk0 m t.name t.w;omega⟩
theorem cv_k {m m1 m2 : List (ByteArray × Int)} {t : V.Term} {i : Nat} (h : CvK m m1 t i) (hi : (i : Int) < t.kids.length) (h2 : CvI m1 m2 ⟨(t.kids.getD (i : Int).toNat K.terms.dflt).op,(t.kids.getD (i : Int).toNat K.terms.dflt).w,(t.kids.getD (i : Int).toNat K.terms.dflt).n,(t.kids.getD (i : Int).toNat K.terms.dflt).name,(t.kids.getD (i : Int).toNat K.terms.dflt).kids⟩) : CvK m m2 t (i + 1) := by
  rw [V.Term.eta] at h2
  have hi' : i < t.kids.length := by omega
  have e : t.kids.getD (i : Int).toNat K.terms.dflt = t.kids[i] := by rw [Int.toNat_natCast,List.getD_eq_getElem?_getD,List.getElem?_eq_getElem hi'];rfl
  refine ⟨fun p hp=>?_, ?_⟩
  . rcases h2.h p hp with q|q
    . exact h.h p q
    . rw [Int.toNat_natCast] at q
      exact .inr (kidV q)
  . have q1 := h.len
    have q2 := h2.len
    rw [e] at q2
    rw [List.take_succ_eq_append_getElem hi',qbg,g6,g6]
    omega
theorem cv_end {m m1 : List (ByteArray × Int)} {t : V.Term} {i : Nat} (h : CvK m m1 t i) (hi : ¬ (i : Int) < t.kids.length) : CvI m m1 t := ⟨h.h,by
  have q := h.len
  rw [List.take_of_length_le omG] at q
  have e : sizeT t = 1 + g6 t.kids := by cases t;rw [sizeT]
  omega⟩
structure IHcv (n : Nat) : Prop where
  call : ∀ (op w nn : Int) (nm : ByteArray) (ks : List V.Term) (m : List (ByteArray × Int)),sizeT ⟨op,w,nn,nm,ks⟩ < n -> CallsG Tryz.prog 141 [.agg [.dat (.i op),.dat (.i w),.dat (.i nn),.dat (.str nm),.dat (.seq .terms ks)],.mp 0] [.mp m false] 1
    (fun res B=>∃ m',res = .tup [] /\ B = [.mp m' false] /\ CvI m m' ⟨op,w,nn,nm,ks⟩)
theorem ih_cv {n : Nat} (ih : IHcv n) {op w nn : Int} {nm : ByteArray} {ks : List V.Term} {m : List (ByteArray × Int)} (hs : sizeT ⟨op,w,nn,nm,ks⟩ < n) : CallsG Tryz.prog 141 [.agg [.dat (.i op),.dat (.i w),.dat (.i nn),.dat (.str nm),.dat (.seq .terms ks)],.mp 0] [.mp m false] 1
    (fun res B=>∃ m',res = .tup [] /\ B = [.mp m' false] /\ CvI m m' ⟨op,w,nn,nm,ks⟩) := ih.call op w nn nm ks m hs
theorem i_cv0 (t : V.Term) (m : List (ByteArray × Int)) (ih : IHcv (sizeT t)) : CallsG Tryz.prog 141 [.agg [.dat (.i t.op),.dat (.i t.w),.dat (.i t.n),.dat (.str t.name),.dat (.seq .terms t.kids)],.mp 0] [.mp m false] 1 (fun res B=>∃ m',res = .tup [] /\ B = [.mp m' false] /\ CvI m m' t) := by
  refine oG Tryz.func141 ⟨?_⟩
  repeat' (first|((with_reducible refine fun (K1 : KT) hK=>?_);(with_reducible refine rS ?_ ?_);exact rfl;conv=>whnf)|((with_reducible refine fun (K1 : KT) hK=>?_);conv=>whnf)|((with_reducible show K1 _ _);subst hK;conv=>whnf)|(with_reducible exact rfl)|((with_reducible refine sp_d (fun h=>?_) (fun h=>?_)) <;> first|contradiction|(subst h;conv=>whnf)|(conv=>whnf))|((with_reducible refine sp_e (fun h=>?_) (fun h=>?_)) <;> first|contradiction|(subst h;conv=>whnf)|(conv=>whnf))|(with_reducible refine bnd2 ?_ ?_)|refine f2 ⟨?_⟩ ⟨?_⟩|(refine y5 ({x : Nat × List (ByteArray × Int) // CvK m x.2 t x.1}) (fun ⟨⟨k,m1⟩,hI⟩=>x5 Tryz.f141.ntmps [(1,.mp 900000),(2,.ptr 2 0),(15,.dat (.i t.kids.length)),(16,.dat (.i k))] [(900000,.mp m1 false),(2,.box [.dat (.i t.op),.dat (.i t.w),.dat (.i t.n),.dat (.str t.name),.dat (.seq .terms t.kids)])]) (fun ⟨⟨k,m1⟩,hI⟩=>t.kids.length - k) ⟨⟨0, ?_⟩, ?_⟩ (SubP.sub (σ := [(900000,some 900000),(2,some 2)]) ⟨⟨rfl,rfl,rfl⟩,⟨rfl,rr,o0 ?_,o0 ?_,trivial⟩,⟨⟨?_, ?_⟩,⟨j0 ?_,j0 ?_,j0 ?_,j0 ?_,j0 ?_,trivial⟩,trivial⟩⟩) (fun ⟨⟨k,m1⟩,hI⟩=>?_);rotate_right;conv=>whnf)|(refine b6 (⟨⟨k + 1, ?_⟩, ?_⟩ : {x : Nat × List (ByteArray × Int) // CvK m x.2 t x.1}) ?_ (SubP.sub (σ := [(900000,some 900000),(2,some 2)]) ⟨⟨rfl,rfl,rfl⟩,⟨rfl,rr,o0 ?_,o0 ?_,trivial⟩,⟨⟨?_, ?_⟩,⟨j0 ?_,j0 ?_,j0 ?_,j0 ?_,j0 ?_,trivial⟩,trivial⟩⟩))|((with_reducible refine iC (g := 141) ?_);refine ⟨_,_,ih_cv (ih := asmR) (hs := ?_) ..,fun res B hRB=>?_⟩;rotate_right;obtain ⟨m2,rfl,rfl,hcv⟩ := hRB;conv=>whnf)|(intro h;conv=>whnf))
  all_goals repeat clear hK K1
  all_goals first|(with_reducible assumption)|exact cv_0 m t|exact cv_set asmR|exact ⟨_,rfl,rfl,cv_end hI asmR⟩|exact cv_k hI asmR asmR|((with_reducible show (_ : Nat) < _);(dsimp only;omega))|exact congrArg (Dat.int .i64) (wrap_succ asmR asmR).symm|exact rfl|((with_reducible show sizeT _ < _);rw [V.Term.eta];exact gJ asmR)|omega|skip
theorem i_cv : ∀ n,IHcv n
  | 0=>⟨fun _ _ _ _ _ _ h=>absurd h (Nat.not_lt_zero _)⟩
  | n + 1=>⟨fun op w nn nm ks m hs=>i_cv0 ⟨op,w,nn,nm,ks⟩ m ⟨fun op' w' nn' nm' ks' m' hs'=>(i_cv n).call op' w' nn' nm' ks' m' omG⟩⟩
theorem qml (op w nn : Int) (nm : ByteArray) (ks : List V.Term) : CallsG Tryz.prog 141 [.agg [.dat (.i op),.dat (.i w),.dat (.i nn),.dat (.str nm),.dat (.seq .terms ks)],.mp 0] [.mp [] false] 1
    (fun res B=>∃ m',res = .tup [] /\ B = [.mp m' false] /\ CvI [] m' ⟨op,w,nn,nm,ks⟩) := (i_cv _).call op w nn nm ks [] (Nat.lt_succ_self _)
end Vg
namespace Vg
open Go Go.Proofs Go.Sort Go.Shelf Go.RowKit Go.Lib
theorem qn8 (x : ByteArray) (W : World) : Calls Tryz.prog 172 #[.string x] W fun e w'=>e = .returned (.bool false) /\ w' = W := by
  go_enter Tryz.func172,Tryz.ntmps172
  go_wp2
  go_ret
  exact ⟨by simp,rfl⟩
theorem sc_lt {x y : ByteArray} (h : Op.bytesLess x.toList y.toList = true) : scmp x y = -1 := by unfold scmp;rw [if_pos (show o6 x y = true from h)]
theorem toL_inj {x y : ByteArray} (h : x.toList = y.toList) : x = y := by
  rw [Lib.toList_data,Lib.toList_data] at h
  exact ByteArray.ext (Array.toList_inj.1 h)
theorem sc_gt {x y : ByteArray} (h : Op.bytesLess x.toList y.toList = false) (h2 : (!x.toList == y.toList) = true) : scmp x y = 1 :=
  lU (fun e=>by rw [e] at h2;simp at h2) h
theorem sc_eq {x y : ByteArray} (h2 : (!x.toList == y.toList) = false) : scmp x y = 0 := by
  rw [toL_inj (by simpa using h2 : x.toList = y.toList)]
  exact kU _
theorem c_cmps (x y : ByteArray) (W : World) : Calls Tryz.prog 144 #[.string x,.string y] W fun e w'=>e = .returned (.int .i64 (scmp x y)) /\ w' = W := by
  go_enter Tryz.func144,Tryz.ntmps144
  go_wp2_with (go_at_call 172;refine (qn8 _ _).mono ?_;rintro e w' ⟨rfl,hw⟩;rw [hw])
  all_goals (go_ret;refine ⟨congrArg (fun n : Int=>Ending.returned (.int .i64 n)) ?_,rfl⟩)
  . exact (sc_lt (by assumption)).symm
  . exact (sc_gt (by assumption) (by assumption)).symm
  . exact (sc_eq (by assumption)).symm
theorem c_clos (x y : V.Val) (W : World) : Calls Tryz.prog 143 #[.agg (vB x).toArray,.agg (vB y).toArray] W fun e w'=>e = .returned (.int .i64 (scmp x.name y.name)) /\ ∃ n os',w' = grow (W.drewN n) os' := by
  have hcon := fun W'=>c_cmps x.name y.name W'
  generalize scmp x.name y.name = r at hcon ⊢
  show Calls _ _ #[.agg #[.string x.name,.int .i64 x.w,.int .i64 x.n],.agg #[.string y.name,.int .i64 y.w,.int .i64 y.n]] _ _
  go_enter Tryz.func143,Tryz.ntmps143
  go_wp2_with (go_at_call 144;refine (hcon _).mono ?_;rintro e w' ⟨rfl,rfl⟩)
  go_ret
  exact ⟨rfl,0,_,by rw [alloc_eq_grow,alloc_eq_grow,grow_grow];rfl⟩
theorem fW (x y : V.Val) : ltOf (fun x y : V.Val=>scmp x.name y.name) x y = o6 x.name y.name := by
  show decide (scmp x.name y.name < 0) = _
  by_cases h : o6 x.name y.name = true
  . rw [h,qa8 h];rfl
  . have h' : o6 x.name y.name = false := by simpa using h
    rw [h']
    by_cases e : x.name = y.name
    . rw [e,kU];rfl
    . rw [lU e h'];rfl
theorem swo_nm : SWO (ltOf fun x y : V.Val=>scmp x.name y.name) where
  irrefl x := by rw [fW];exact vK _
  trans x y z h1 h2 := by rw [fW] at *;exact lN h1 h2
  ntrans x y z h1 h2 := by
    rw [fW] at *
    by_cases e : x.name = y.name
    . rw [e];exact h2
    . by_cases e2 : y.name = z.name
      . rw [<- e2];exact h1
      . exact qbh (lN (uK e2 h2) (uK e h1))
theorem g_SortV (l : List V.Val) (hl : l.length < 4611686018427387904) : CallsG Tryz.prog 142 [.row 0,.fn 143 []] [.row 112 .vals l false] 1 (fun res B=>∃ l',res = .tup [] /\ B = [.row 112 .vals l' false] /\ l'.Perm l) :=
  sortFG Tryz.sortVals rfl ⟨_,Tryz.func142,rfl,rfl⟩ hl Tryz.isAgg112 Tryz.sizeOf112 _ swo_nm (enters_of Tryz.func143 (by kernel_rfl) rfl) c_clos
end Vg
namespace Vg
open Go Go.Proofs
set_option maxRecDepth 100000
set_option maxHeartbeats 40000000
structure VlI (m : List (ByteArray × Int)) (n : Nat) (out : List V.Val) : Prop where
  h : ∀ v,v ∈ out -> (v.name,v.w) ∈ m /\ v.n = 0
  len : out.length + n <= m.length
theorem vl_0 (m : List (ByteArray × Int)) : VlI m m.length [] := ⟨fun v h=>(by cases h),by simp⟩
theorem vl_p {m : List (ByteArray × Int)} {n k : Nat} {out : List V.Val} {s : ByteArray} {v : Int} (h : VlI m n out) (hk : k < n) (hm : (s,v) ∈ m) : VlI m k (out ++ [⟨s,v,0⟩]) := ⟨fun x hx=>by
  rcases List.mem_append.1 hx with hx|hx
  . exact h.h x hx
  . rw [List.mem_singleton] at hx;subst hx;exact ⟨hm,rfl⟩,by rw [List.length_append,List.length_singleton];have := h.len;omega⟩
theorem vl_s {m : List (ByteArray × Int)} {t : V.Term} {n k : Nat} {out : List V.Val} (ht : sizeT t <= 240) (hc : CvI [] m t) (h : VlI m n out) (hk : k < n) : out.length + 1 <= 241 := by
  have q1 := hc.len
  have q2 := h.len
  rw [List.length_nil] at q1
  omega
theorem vl_z {m : List (ByteArray × Int)} {t : V.Term} {n : Nat} {out : List V.Val} (ht : i7 t = true) (hc : CvI [] m t) (h : VlI m n out) : out.length < 4611686018427387904 := by
  have q1 := hc.len
  have q2 := h.len
  have q3 : sizeT t <= 240 := by
    unfold i7 at ht
    rw [Bool.and_eq_true,Bool.and_eq_true,decide_eq_true_eq] at ht
    exact ht.1.1
  rw [List.length_nil] at q1
  omega
structure VrI (t : V.Term) (l : List V.Val) : Prop where
  h : ∀ v,v ∈ l -> (v.name,v.w) ∈ varsT t /\ v.n = 0
theorem vr_of {t : V.Term} {m : List (ByteArray × Int)} {n : Nat} {out l : List V.Val} (h : CvI [] m t) (h2 : VlI m n out) (hp : l.Perm out) : VrI t l := ⟨fun v hv=>by
  have q := h2.h v (hp.mem_iff.1 hv)
  exact ⟨(h.h _ q.1).elim (fun e=>by cases e) id,q.2⟩⟩
theorem vt_z {t : V.Term} (h : i7 t = true) : sizeT t <= 240 := by
  unfold i7 at h
  rw [Bool.and_eq_true,Bool.and_eq_true,decide_eq_true_eq] at h
  exact h.1.1
theorem qmn (op w nn : Int) (nm : ByteArray) (ks : List V.Term) (ht : i7 ⟨op,w,nn,nm,ks⟩ = true) : CallsF Tryz.prog 111 [.agg [.dat (.i op),.dat (.i w),.dat (.i nn),.dat (.str nm),.dat (.seq .terms ks)]] true (fun res B=>∃ l,res = .row 0 /\ B = [.row 112 .vals l false] /\ VrI ⟨op,w,nn,nm,ks⟩ l) := by
  refine oF Tryz.func111 ⟨?_⟩
  repeat' (first|((with_reducible refine fun (K1 : KT) hK=>?_);(with_reducible refine rS ?_ ?_);exact rfl;conv=>whnf)|((with_reducible refine fun (K1 : KT) hK=>?_);conv=>whnf)|((with_reducible show K1 _ _);subst hK;conv=>whnf)|(with_reducible exact rfl)|((with_reducible refine sp_T ?_);conv=>whnf)|((with_reducible refine sp_F ?_);conv=>whnf)|((with_reducible refine sp_nb (fun h=>?_) (fun h=>?_)) <;> first|(exact noTF h asmR)|(exact noTF asmR h)|(conv=>whnf))|(refine ⟨(rfl : vA _ = true),rfl, ?_⟩;conv=>whnf)|(with_reducible refine bndN ?_ ?_)|refine f2 ⟨?_⟩ ⟨?_⟩|(refine y5 ({x : Nat × Bool × List V.Val // VlI m2 x.1 x.2.2}) (fun ⟨⟨n,z,out⟩,hI⟩=>x5 Tryz.f111.ntmps [(4,.row 104),(15,.ptr 15 0)] [(15,.it m2 n z),(104,.row 112 .vals out false)]) (fun ⟨⟨n,z,out⟩,hI⟩=>n) ⟨⟨m2.length,false,[]⟩,vl_0 m2⟩ (SubP.sub (σ := [(15,some 15),(104,none)]) ⟨⟨rfl,rfl,rfl⟩,⟨rfl,rr,trivial⟩,⟨⟨rfl, ?_, ?_⟩, ?_,trivial⟩⟩) (fun ⟨⟨n,z,out⟩,hI⟩=>?_);rotate_right;conv=>whnf)|(refine b6 (⟨⟨?_, ?_, ?_⟩, ?_⟩ : {x : Nat × Bool × List V.Val // VlI m2 x.1 x.2.2}) ?_ (SubP.sub (σ := [(15,some 15),(104,some 26)]) ⟨⟨rfl,rfl,rfl⟩,⟨rfl,rr,trivial⟩,⟨⟨rfl, ?_, ?_⟩,⟨rr, ?_⟩,trivial⟩⟩))|refine vP (vR ..) ⟨?_⟩|((with_reducible refine iC (g := 141) ?_);refine ⟨_,_,qml ..,fun res B hRB=>?_⟩;rotate_right;obtain ⟨m2,rfl,rfl,hcv⟩ := hRB;conv=>whnf)|((with_reducible refine iC (g := 142) ?_);refine ⟨_,_,g_SortV (hl := ?_) ..,fun res B hRB=>?_⟩;rotate_right;obtain ⟨l2,rfl,rfl,hpm⟩ := hRB;conv=>whnf)|(intro h;conv=>whnf))
  all_goals repeat clear hK K1
  all_goals first|(with_reducible assumption)|exact vl_p hI asmR asmR|exact ⟨_,rfl,rfl,vr_of hcv hI hpm⟩|(exact Nat.le_trans (vl_s (vt_z ht) hcv hI asmR) (by decide))|(exact Nat.le_trans (Nat.mul_le_mul_right _ (vl_s (vt_z ht) hcv hI asmR)) (by decide))|exact rfl|exact vl_z ht hcv hI|skip
end Vg
