/- The values of the inputs, and the terms of paths, for the program's words of terms: plain law. No condition. -/
import Derived.Test.YtfhkodimclmcdaaGreatDoorPfF
import Derived.Test.YtfhkodimclmcdaaGreatDoorEvI
import Derived.Test.YtfhkodimclmcdaaGreatDoorEvQ
import Derived.Test.YtfhkodimclmcdaaGreatDoorRedQ
import Derived.Test.YtfhkodimclmcdaaGreatDoorVarsT
import Derived.Test.YtfhkodimclmcdaaGreatDoorPathW
import Derived.Test.YtfhkodimclmcdaaGreatDoorPathS
import Derived.Test.YtfhkodimclmcdaaGreatDoorMStep
import Derived.Test.YtfhkodimclmcdaaGreatDoorSess
import Derived.Test.YtfhkodimclmcdaaGreatDoorEvS
import Derived.Test.YtfhkodimclmcdaaGreatDoorPathX
import Derived.Test.YtfhkodimclmcdaaGreatDoorPfI
namespace Vg
open Go Go.Proofs
structure VlsOk (L : List V.Val) : Prop where
  len : L.length <= 3
  nm : ∀ k : Nat,k < L.length -> isNameP (vAt L k).name = true
  wd : ∀ k : Nat,k < L.length -> wordP (vAt L k).w (vAt L k).n = true
  lt : ∀ k : Nat,0 < k -> k < L.length -> o6 (vAt L (k - 1)).name (vAt L k).name = true
theorem oK {w : Int} {l : List Int} {n k : Nat} (h : k < n) : vAt (d9 w l n) k = ⟨l6 k,w,l.getD k 0⟩ := by
  unfold vAt d9
  rw [List.getD_eq_getElem?_getD,List.getElem?_map,List.getElem?_range h];rfl
theorem vls_of {w : Int} {l : List Int} (h3 : l.length <= 3) (hw : ∀ x,x ∈ l -> wordP w x = true) : VlsOk (d9 w l l.length) := by
  refine ⟨by rw [bJ];exact h3,fun k hk=>?_,fun k hk=>?_,fun k h0 hk=>?_⟩
  all_goals rw [bJ] at hk
  . rw [oK hk]
    show isNameP (l6 k) = true
    have : k = 0 \/ k = 1 \/ k = 2 := by omega
    rcases this with rfl|rfl|rfl <;> decide
  . rw [oK hk]
    show wordP w (l.getD k 0) = true
    rw [List.getD_eq_getElem?_getD,List.getElem?_eq_getElem hk]
    exact hw _ (List.getElem_mem hk)
  . rw [oK hk,oK (show k - 1 < l.length by omega)]
    show o6 (l6 ((k - 1 : Nat) : Int)) (l6 (k : Int)) = true
    have : k = 1 \/ k = 2 := by omega
    rcases this with rfl|rfl
    . exact tH.2 (show (l6 0).data.toList < (l6 1).data.toList by decide)
    . exact tH.2 (show (l6 1).data.toList < (l6 2).data.toList by decide)
noncomputable def yE (w : Int) (k : Nat) : List (ByteArray × Int) := iA (List.replicate 3 w) k
theorem wid_at {w : Int} {n k : Nat} (hk : k < n) (hn : n <= 3) : mget (yE w n) (l6 k) = some w := by
  have : (n = 1 /\ k = 0) \/ (n = 2 /\ k = 0) \/ (n = 2 /\ k = 1) \/ (n = 3 /\ k = 0) \/ (n = 3 /\ k = 1) \/ (n = 3 /\ k = 2) := by omega
  unfold yE
  have e01 : ¬ l6 1 = l6 0 := by decide
  have e02 : ¬ l6 2 = l6 0 := by decide
  have e12 : ¬ l6 2 = l6 1 := by decide
  rcases this with ⟨rfl,rfl⟩|⟨rfl,rfl⟩|⟨rfl,rfl⟩|⟨rfl,rfl⟩|⟨rfl,rfl⟩|⟨rfl,rfl⟩
  . show mget (iA (List.replicate 3 w) 1) (l6 0) = some w
    rw [wC,if_pos rfl];rfl
  . show mget (iA (List.replicate 3 w) 2) (l6 0) = some w
    rw [jE,if_neg e01,wC,if_pos rfl];rfl
  . show mget (iA (List.replicate 3 w) 2) (l6 1) = some w
    rw [jE,if_pos rfl];rfl
  . show mget (iA (List.replicate 3 w) 3) (l6 0) = some w
    rw [wJ,if_neg e02,jE,if_neg e01,wC,if_pos rfl];rfl
  . show mget (iA (List.replicate 3 w) 3) (l6 1) = some w
    rw [wJ,if_neg e12,jE,if_pos rfl];rfl
  . show mget (iA (List.replicate 3 w) 3) (l6 2) = some w
    rw [wJ,if_pos rfl];rfl
theorem wdt_s {w : Int} {l : List Int} {k : Nat} (h3 : l.length <= 3) (h : (k : Int) < l.length) : yE w (k + 1) = y8 (yE w k) ((d9 w l l.length).getD (k : Int).toNat K.vals.dflt).name ((d9 w l l.length).getD (k : Int).toNat K.vals.dflt).w := by
  have e : (d9 w l l.length).getD (k : Int).toNat K.vals.dflt = ⟨l6 k,w,l.getD k 0⟩ := by rw [Int.toNat_natCast];exact oK omG
  rw [e]
  unfold yE
  have e2 : (List.replicate 3 w).getD k 0 = w := by
    rw [List.getD_eq_getElem?_getD,List.getElem?_replicate,if_pos omG];rfl
  rw [iA,e2]
theorem enV_s {w : Int} {l : List Int} {k : Nat} (h : (k : Int) < l.length) : iA l (k + 1) = y8 (iA l k) ((d9 w l l.length).getD (k : Int).toNat K.vals.dflt).name ((d9 w l l.length).getD (k : Int).toNat K.vals.dflt).n := by
  have e : (d9 w l l.length).getD (k : Int).toNat K.vals.dflt = ⟨l6 k,w,l.getD k 0⟩ := by rw [Int.toNat_natCast];exact oK omG
  rw [e,iA]
structure EvH (w : Int) (inp : List Int) (t : V.Term) : Prop where
  tp : i7 t = true
  vs : ∀ v,v ∈ varsT t -> v.2 = w /\ ∃ k : Nat,k < inp.length /\ v.1 = l6 k
  len : inp.length <= 3
  wd : ∀ x,x ∈ inp -> wordP w x = true
theorem EvH.of {p : V.Prog} {w : Int} {t : V.Term} {inp : List Int} (h : Qt p w t) (hp : i4 p = true) (hl : InOk p inp) : EvH p.w inp t := by
  have hm := a7 hp
  have hn := hl.len
  refine ⟨h.term,fun v hv=>?_,by omega,hl.w⟩
  obtain ⟨e,k,h0,h1,e2⟩ := h.vs v hv
  exact ⟨e,k.toNat,by omega,by rw [e2,Int.toNat_of_nonneg h0]⟩
theorem qie {t : V.Term} (h : i7 t = true) : okT t = true := by
  unfold i7 at h
  rw [Bool.and_eq_true,Bool.and_eq_true] at h
  exact h.1.2
theorem EvH.ok {w : Int} {t : V.Term} {inp : List Int} (h : EvH w inp t) : okT t = true := qie h.tp
theorem EvH.vls {w : Int} {t : V.Term} {inp : List Int} (h : EvH w inp t) : VlsOk (d9 w inp inp.length) := vls_of h.len h.wd
theorem EvH.row {w : Int} {t : V.Term} {inp : List Int} (h : EvH w inp t) {l : List V.Val} (hv : VrI t l) {k : Nat} (hk : (k : Int) < l.length) : mget (yE w inp.length) (l.getD (k : Int).toNat K.vals.dflt).name = some (l.getD (k : Int).toNat K.vals.dflt).w := by
  have hk' : k < l.length := by omega
  have hm : l.getD (k : Int).toNat K.vals.dflt ∈ l := by
    rw [Int.toNat_natCast,List.getD_eq_getElem?_getD,List.getElem?_eq_getElem hk'];exact List.getElem_mem hk'
  obtain ⟨e,j,hj,e2⟩ := h.vs _ (hv.h _ hm).1
  dsimp only at e e2
  rw [e2,e]
  exact wid_at hj h.len
theorem vl_nm {L : List V.Val} {k : Nat} (h : VlsOk L) (hk : (k : Int) < L.length) : isNameP (L.getD (k : Int).toNat K.vals.dflt).name = true := by rw [Int.toNat_natCast];exact h.nm k omG
theorem vl_wd {L : List V.Val} {k : Nat} (h : VlsOk L) (hk : (k : Int) < L.length) : wordP (L.getD (k : Int).toNat K.vals.dflt).w (L.getD (k : Int).toNat K.vals.dflt).n = true := by rw [Int.toNat_natCast];exact h.wd k omG
theorem vl_ge {C : Prop} {L : List V.Val} {k : Nat} (h : VlsOk L) (hk : (k : Int) < L.length) (h0 : (k : Int) > 0) (hb : Op.bytesLess (L.getD (IntKind.i64.wrap ((k : Int) - 1)).toNat K.vals.dflt).name.toList (L.getD (k : Int).toNat K.vals.dflt).name.toList = false) : C := by
  have hl := h.len
  have e : (IntKind.i64.wrap ((k : Int) - 1)).toNat = k - 1 := by rw [j3 omG omG];omega
  have q : Op.bytesLess (L.getD (k - 1) K.vals.dflt).name.toList (L.getD k K.vals.dflt).name.toList = true := h.lt k omG omG
  rw [e,Int.toNat_natCast,q] at hb
  cases hb
theorem EvH.row1 {C : Prop} {w : Int} {t : V.Term} {inp : List Int} (h : EvH w inp t) {l : List V.Val} (hv : VrI t l) {k : Nat} (hk : (k : Int) < l.length) (hn : (mget (yE w inp.length) (l.getD (k : Int).toNat K.vals.dflt).name).isSome = false) : C := by
  rw [h.row hv hk] at hn;cases hn
theorem EvH.row2 {C : Prop} {w : Int} {t : V.Term} {inp : List Int} (h : EvH w inp t) {l : List V.Val} (hv : VrI t l) {k : Nat} (hk : (k : Int) < l.length) (hn : ¬ (mget (yE w inp.length) (l.getD (k : Int).toNat K.vals.dflt).name).getD 0 = (l.getD (k : Int).toNat K.vals.dflt).w) : C := by
  rw [h.row hv hk] at hn;exact absurd rfl hn
theorem mS {σ : ByteArray -> Int} : ∀ l : List V.Term,l.map (evT σ) = y6 σ l
  | []=>by rw [y6];rfl
  | t :: l=>by rw [y6,List.map_cons,mS l]
set_option maxRecDepth 100000
set_option maxHeartbeats 40000000
theorem i_place (w mem inn : Int) (code : List V.Ins) (n : Int) : CallsV Tryz.prog 105 [.agg [.dat (.i w),.dat (.i mem),.dat (.i inn),.dat (.seq .inss code)],.dat (.i n)] (.dat (.bool (inP n 0 code.length))) := by
  refine oV Tryz.func105 ⟨?_⟩
  repeat' (first|((with_reducible refine fun (K1 : KT) hK=>?_);refine r3 ⟨?_⟩)|((with_reducible show K1 _ _);subst hK;conv=>whnf)|refine st0 ⟨?_⟩|((with_reducible refine SplS.mk (fun h=>?_) (fun h=>?_)) <;> first|exact o4|(subst h;conv=>whnf)|(conv=>whnf))|(intro h;conv=>whnf))
  all_goals repeat clear hK K1
  all_goals first|rfl|assumption|exact Bool.noConfusion (h.symm.trans hp)|(simp_all [inP];done)|grind [inP]|(simp_all [inP];omega)
theorem qee (n : Int) : CallsV Tryz.prog 50 [.dat (.i n)] (.dat (.bool (inP n 0 400))) := by
  refine oV Tryz.func50 ⟨?_⟩
  repeat' (first|((with_reducible refine fun (K1 : KT) hK=>?_);refine r3 ⟨?_⟩)|((with_reducible show K1 _ _);subst hK;conv=>whnf)|refine st0 ⟨?_⟩|((with_reducible refine SplS.mk (fun h=>?_) (fun h=>?_)) <;> first|exact o4|(subst h;conv=>whnf)|(conv=>whnf)))
  all_goals repeat clear hK K1
  all_goals first|rfl|assumption|exact Bool.noConfusion (h.symm.trans hp)|(simp_all [inP];done)|grind [inP]|(simp_all [inP];omega)
theorem qls (p : V.Prog) (l : List V.Term) : CallsV Tryz.prog 107 [.dat (.i p.w),.dat (.seq .terms l)] (.dat (.bool (bG p.w l))) := by
  refine oV Tryz.func107 ⟨?_⟩
  repeat' (first|((with_reducible refine fun (K1 : KT) hK=>?_);refine r3 ⟨?_⟩)|((with_reducible show K1 _ _);subst hK;conv=>whnf)|(with_reducible exact rfl)|refine st0 ⟨?_⟩|((with_reducible refine SplS.mk (fun h=>?_) (fun h=>?_)) <;> first|exact u5|(subst h;conv=>whnf)|(conv=>whnf))|refine f2 ⟨?_⟩ ⟨?_⟩|(refine y5 ({k : Nat // TpK p.w l k}) (fun ⟨k,hq⟩=>x5 Tryz.f107.ntmps [(0,.dat (.i p.w)),(1,.dat (.seq .terms l)),(7,.dat (.i l.length)),(8,.dat (.i k))] []) (fun ⟨k,hq⟩=>l.length - k) ⟨0, ?_⟩ (SubP.sub (σ := []) ⟨⟨rfl,rfl,rfl⟩,⟨o0 ?_,o0 ?_,o0 ?_,o0 ?_,trivial⟩,trivial⟩) (fun ⟨k,hq⟩=>?_);rotate_right;conv=>whnf)|(refine b6 (⟨k + 1, ?_⟩ : {k : Nat // TpK p.w l k}) ?_ (SubP.sub (σ := []) ⟨⟨rfl,rfl,rfl⟩,⟨o0 ?_,o0 ?_,o0 ?_,o0 ?_,trivial⟩,trivial⟩))|refine vP (vR ..) ⟨?_⟩|(intro h;conv=>whnf))
  all_goals repeat clear hK K1
  all_goals first|(with_reducible assumption)|exact ⟨rfl⟩|exact ⟨tp_at asmR hq.h asmR asmR⟩|exact congrArg Dat.bool (tp_w asmR asmR)|exact congrArg Dat.bool (tp_t asmR asmR)|exact congrArg Dat.bool (tM asmR hq.h)|exact congrArg (Dat.int .i64) (wrap_succ asmR asmR).symm|((with_reducible show (_ : Int) <= _);omega)|((with_reducible show (_ : Nat) < _);((try dsimp only);omega))|exact rfl|skip
theorem i_tmsOk (w : Int) (l : List V.Term) : CallsV Tryz.prog 107 [.dat (.i w),.dat (.seq .terms l)] (.dat (.bool (bG w l))) := qls ⟨w,0,0,[]⟩ l
theorem tu_P {l : List Int} (h : l.all (fun x=>inP x 0 1) = true) : dN l = true := by
  unfold dN
  rw [List.all_eq_true] at h ⊢
  intro x hx
  have := k6.1 (h x hx)
  have : x = 0 \/ x = 1 := by omega
  rcases this with rfl|rfl <;> rfl
theorem qmr (p : V.Prog) (s : V.Path) (hx : PX p s) : CallsV Tryz.prog 73 [.agg [.dat (.i p.w),.dat (.i p.mem),.dat (.i p.inn),.dat (.seq .inss p.code)],.agg [.dat (.i s.pc),.dat (.seq .terms s.regs),.dat (.seq .terms s.mem),.dat (.seq .ints s.stack),.dat (.i s.inn),.dat (.seq .terms s.out),.dat (.i s.code),.dat (.i s.steps),.dat (.seq .terms s.cond),.dat (.seq .ints s.turns)]] (.dat (.bool true)) := by
  refine oV Tryz.func73 ⟨?_⟩
  repeat' (first|((with_reducible refine fun (K1 : KT) hK=>?_);refine r3 ⟨?_⟩)|((with_reducible show K1 _ _);subst hK;conv=>whnf)|(with_reducible exact rfl)|refine st0 ⟨?_⟩|((with_reducible refine SplS.mk (fun h=>?_) (fun h=>?_)) <;> first|exact u5|(subst h;conv=>whnf)|(conv=>whnf))|refine f2 ⟨?_⟩ ⟨?_⟩|(refine y5 ({k : Nat // k <= s.stack.length}) (fun ⟨k,hk⟩=>x5 Tryz.f73.ntmps [(2,.ptr 2 0),(3,.ptr 3 0),(54,.dat (.seq .ints s.stack)),(55,.dat (.i s.stack.length)),(56,.dat (.i k))] [(2,.box [.dat (.i p.w),.dat (.i p.mem),.dat (.i p.inn),.dat (.seq .inss p.code)]),(3,.box [.dat (.i s.pc),.dat (.seq .terms s.regs),.dat (.seq .terms s.mem),.dat (.seq .ints s.stack),.dat (.i s.inn),.dat (.seq .terms s.out),.dat (.i s.code),.dat (.i s.steps),.dat (.seq .terms s.cond),.dat (.seq .ints s.turns)])]) (fun ⟨k,hk⟩=>s.stack.length - k) ⟨0,Nat.zero_le _⟩ (SubP.sub (σ := [(2,some 2),(3,some 3)]) ⟨⟨rfl,rfl,rfl⟩,⟨rr,rr,o0 ?_,o0 ?_,o0 ?_,trivial⟩,⟨⟨j0 ?_,j0 ?_,j0 ?_,j0 ?_,trivial⟩,⟨j0 ?_,j0 ?_,j0 ?_,j0 ?_,j0 ?_,j0 ?_,j0 ?_,j0 ?_,j0 ?_,j0 ?_,trivial⟩,trivial⟩⟩) (fun ⟨k,hk⟩=>?_);rotate_right;conv=>whnf)|(refine b6 (⟨k + 1, ?_⟩ : {k : Nat // k <= s.stack.length}) ?_ (SubP.sub (σ := [(2,some 2),(3,some 3)]) ⟨⟨rfl,rfl,rfl⟩,⟨rr,rr,o0 ?_,o0 ?_,o0 ?_,trivial⟩,⟨⟨j0 ?_,j0 ?_,j0 ?_,j0 ?_,trivial⟩,⟨j0 ?_,j0 ?_,j0 ?_,j0 ?_,j0 ?_,j0 ?_,j0 ?_,j0 ?_,j0 ?_,j0 ?_,trivial⟩,trivial⟩⟩))|refine vP (wW ..) ⟨?_⟩|refine vP (i_place ..) ⟨?_⟩|refine vP (qee ..) ⟨?_⟩|refine vP (qlr ..) ⟨?_⟩|refine vP (i_tmsOk ..) ⟨?_⟩|(intro h;conv=>whnf))
  all_goals repeat clear hK K1
  all_goals (have hs := hx.is)
  all_goals first|(with_reducible assumption)|exact (wB hs.hp asmR)|exact (wB hs.pc asmR)|exact (wB hs.steps asmR)|exact (wB (st_at hs.so asmR) asmR)|exact (wB (tu_P hs.tu) asmR)|exact absurd hs.rl asmR|exact absurd hs.ml asmR|(exfalso;have h1 := hs.sl;have h2 := hs.ol;have h3 := hs.cl;have h4 := hs.tl;have h5 := k6.1 hs.inn;have h6 := k6.1 hs.code;omega)|exact congrArg Dat.bool hs.co.symm|exact (wB hs.ro asmR)|exact (wB hs.mo asmR)|exact (wB hs.oo asmR)|exact congrArg (Dat.int .i64) (wrap_succ asmR asmR).symm|((with_reducible show (_ : Int) <= _);omega)|((with_reducible show (_ : Nat) <= _);omega)|((with_reducible show (_ : Nat) < _);((try dsimp only);omega))|exact rfl|skip
theorem qms (w mem inn : Int) (code : List V.Ins) (pc : Int) (rg mm : List V.Term) (sk : List Int) (ic : Int) (ot : List V.Term) (cd sp : Int) (cn : List V.Term) (tr : List Int) (hx : PX ⟨w,mem,inn,code⟩ ⟨pc,rg,mm,sk,ic,ot,cd,sp,cn,tr⟩) : CallsV Tryz.prog 73 [.agg [.dat (.i w),.dat (.i mem),.dat (.i inn),.dat (.seq .inss code)],.agg [.dat (.i pc),.dat (.seq .terms rg),.dat (.seq .terms mm),.dat (.seq .ints sk),.dat (.i ic),.dat (.seq .terms ot),.dat (.i cd),.dat (.i sp),.dat (.seq .terms cn),.dat (.seq .ints tr)]] (.dat (.bool true)) := qmr ⟨w,mem,inn,code⟩ ⟨pc,rg,mm,sk,ic,ot,cd,sp,cn,tr⟩ hx
theorem tkR_s {α : Type} {l : List α} {d : α} {k : Nat} (h : (k : Int) < l.length) : l.take (k + 1) ++ List.replicate (l.length - (k + 1)) d = (l.take k ++ List.replicate (l.length - k) d).set (k : Int).toNat (l.getD (k : Int).toNat d) := by
  rw [Int.toNat_natCast];exact (set_mid d d h).symm
theorem uP {α : Type} {l : List α} {d : α} {k : Nat} (h : k <= l.length) : (l.take k ++ List.replicate (l.length - k) d).length = l.length := by
  rw [List.length_append,List.length_take,List.length_replicate];omega
theorem tkR_e {α : Type} {l : List α} {d : α} {k : Nat} (h : ¬ (k : Int) < l.length) : l.take k ++ List.replicate (l.length - k) d = l := qig h
structure IHkS (m : Nat) : Prop where
  call : ∀ (l : List V.Term),g6 l < m -> okTs l = true -> l.length <= 1000 -> CallsV Tryz.prog 93 [.dat (.seq .terms l)] (.dat (.seq .terms l))
theorem ih_kS {m : Nat} (ih : IHkS m) {l : List V.Term} (hs : g6 l < m) (hk : okTs l = true) (hl : l.length <= 1000) : CallsV Tryz.prog 93 [.dat (.seq .terms l)] (.dat (.seq .terms l)) := ih.call l hs hk hl
theorem kp_3 {t : V.Term} (ht : okT t = true) : t.kids.length <= 1000 := by
  have := (cA ht).len
  unfold nA at this
  repeat' split at this
  all_goals omega
theorem kp_el {ks : List V.Term} {k : Nat} (h : (k : Int) < ks.length) (hk : okTs ks = true) : okT ⟨(ks.getD (k : Int).toNat K.terms.dflt).op,(ks.getD (k : Int).toNat K.terms.dflt).w,(ks.getD (k : Int).toNat K.terms.dflt).n,(ks.getD (k : Int).toNat K.terms.dflt).name,(ks.getD (k : Int).toNat K.terms.dflt).kids⟩ = true := by
  rw [V.Term.eta]
  exact gF (i := k) hk omG
theorem kp_sz {l : List V.Term} {k m : Nat} (h : (k : Int) < l.length) (hm : g6 l < m) : sizeT ⟨(l.getD (k : Int).toNat K.terms.dflt).op,(l.getD (k : Int).toNat K.terms.dflt).w,(l.getD (k : Int).toNat K.terms.dflt).n,(l.getD (k : Int).toNat K.terms.dflt).name,(l.getD (k : Int).toNat K.terms.dflt).kids⟩ < m := by
  rw [V.Term.eta]
  exact Nat.lt_of_le_of_lt (gN (ks := l) (i := k) omG) hm
theorem i_kT0 (m : Nat) (op w n : Int) (nm : ByteArray) (ks : List V.Term) (ih : IHkS m) (hm : g6 ks < m) (hk : okT ⟨op,w,n,nm,ks⟩ = true) : CallsV Tryz.prog 131 [.agg [.dat (.i op),.dat (.i w),.dat (.i n),.dat (.str nm),.dat (.seq .terms ks)]] (i5 ⟨op,w,n,nm,ks⟩) := by
  refine oV Tryz.func131 ⟨?_⟩
  repeat' (first|((with_reducible refine fun (K1 : KT) hK=>?_);refine r3 ⟨?_⟩)|((with_reducible show K1 _ _);subst hK;conv=>whnf)|(with_reducible refine a8 ?_)|refine st0 ⟨?_⟩|refine vP (ih_kS (ih := by assumption) (hs := ?_) (hk := ?_) (hl := ?_) ..) ⟨?_⟩|fail)
  all_goals repeat clear hK K1
  all_goals first|(with_reducible assumption)|exact aR hk|exact kp_3 hk|exact ⟨⟨rfl,rfl,rfl,rfl,rfl,True.intro⟩⟩|skip
structure IHkT (m : Nat) : Prop where
  call : ∀ (op w n : Int) (nm : ByteArray) (ks : List V.Term),sizeT ⟨op,w,n,nm,ks⟩ < m -> okT ⟨op,w,n,nm,ks⟩ = true -> CallsV Tryz.prog 131 [.agg [.dat (.i op),.dat (.i w),.dat (.i n),.dat (.str nm),.dat (.seq .terms ks)]] (i5 ⟨op,w,n,nm,ks⟩)
theorem ih_kT {m : Nat} (ih : IHkT m) {op w n : Int} {nm : ByteArray} {ks : List V.Term} (hs : sizeT ⟨op,w,n,nm,ks⟩ < m) (hk : okT ⟨op,w,n,nm,ks⟩ = true) : CallsV Tryz.prog 131 [.agg [.dat (.i op),.dat (.i w),.dat (.i n),.dat (.str nm),.dat (.seq .terms ks)]] (i5 ⟨op,w,n,nm,ks⟩) := ih.call op w n nm ks hs hk
theorem i_kS0 (m : Nat) (l : List V.Term) (ih : IHkT m) (hm : g6 l < m) (hk : okTs l = true) (hl : l.length <= 1000) : CallsV Tryz.prog 93 [.dat (.seq .terms l)] (.dat (.seq .terms l)) := by
  refine oV Tryz.func93 ⟨?_⟩
  repeat' (first|((with_reducible refine fun (K1 : KT) hK=>?_);refine r3 ⟨?_⟩)|((with_reducible show K1 _ _);subst hK;conv=>whnf)|(with_reducible exact rfl)|refine st0 ⟨?_⟩|((with_reducible refine SplS.mk (fun h=>?_) (fun h=>?_)) <;> first|exact o4|(subst h;conv=>whnf)|(conv=>whnf))|refine f2 ⟨?_⟩ ⟨?_⟩|(refine y5 ({k : Nat // k <= l.length}) (fun ⟨k,hq⟩=>x5 Tryz.f93.ntmps [(0,.dat (.seq .terms l)),(3,.row 10),(12,.dat (.i l.length)),(13,.dat (.i k))] [(10,.row 90 .terms (l.take k ++ List.replicate (l.length - k) K.terms.dflt) false)]) (fun ⟨k,hq⟩=>l.length - k) ⟨0,Nat.zero_le _⟩ (SubP.sub (σ := [(10,some 10)]) ⟨⟨rfl,rfl,rfl⟩,⟨o0 ?_,rfl,o0 ?_,o0 ?_,trivial⟩,⟨⟨rr, ?_⟩,trivial⟩⟩) (fun ⟨k,hq⟩=>?_);rotate_right;conv=>whnf)|(refine b6 (⟨k + 1, ?_⟩ : {k : Nat // k <= l.length}) ?_ (SubP.sub (σ := [(10,some 10)]) ⟨⟨rfl,rfl,rfl⟩,⟨o0 ?_,rfl,o0 ?_,o0 ?_,trivial⟩,⟨⟨rr, ?_⟩,trivial⟩⟩))|refine vP (ih_kT (ih := by assumption) (hs := ?_) (hk := ?_) ..) ⟨?_⟩|(intro h;conv=>whnf))
  all_goals repeat clear hK K1
  all_goals first|(with_reducible assumption)|((with_reducible show (_ : Nat) < _);(dsimp only;omega))|exact kp_sz asmR hm|exact kp_el asmR hk|exact congrArg (Dat.int .i64) (wrap_succ asmR asmR).symm|((with_reducible show (_ : Int) <= _);first|omega|(show (_ : Int) * ((64 : Nat) : Int) <= _;omega))|((with_reducible show (_ : Int) < _);rw [uP hq];omega)|((with_reducible show (_ : Nat) < _);rw [uP hq];omega)|((with_reducible show (_ : Nat) <= _);omega)|(simp only [V.Term.eta];exact congrArg (Sigma.mk K.terms) (tkR_s asmR))|exact congrArg (Dat.seq K.terms) (tkR_e asmR).symm|((with_reducible show (_ : Nat) = _);omega)|exact rfl|skip
theorem kT_of {m : Nat} (ih : IHkS m) : IHkT (m + 1) := ⟨fun op w n nm ks hs hk=>i_kT0 m op w n nm ks ih (by rw [sizeT] at hs;omega) hk⟩
theorem qdo : ∀ m,IHkS m
  | 0=>⟨fun _ h=>absurd h (Nat.not_lt_zero _)⟩
  | m + 1=>⟨fun l hs hk hl=>i_kS0 (m + 1) l (kT_of (qdo m)) hs hk hl⟩
theorem qmi (l : List V.Term) (hk : okTs l = true) (hl : l.length <= 1000) : CallsV Tryz.prog 93 [.dat (.seq .terms l)] (.dat (.seq .terms l)) := (qdo (g6 l + 1)).call l (Nat.lt_succ_self _) hk hl
theorem qmk (pc : Int) (rg mm : List V.Term) (sk : List Int) (ic : Int) (ot : List V.Term) (cd sp : Int) (cn : List V.Term) (tr : List Int) (h : CpOk ⟨pc,rg,mm,sk,ic,ot,cd,sp,cn,tr⟩) : CallsV Tryz.prog 56 [.agg [.dat (.i pc),.dat (.seq .terms rg),.dat (.seq .terms mm),.dat (.seq .ints sk),.dat (.i ic),.dat (.seq .terms ot),.dat (.i cd),.dat (.i sp),.dat (.seq .terms cn),.dat (.seq .ints tr)]] (kH ⟨pc,rg,mm,sk,ic,ot,cd,sp,cn,tr⟩) := by
  refine oV Tryz.func56 ⟨?_⟩
  repeat' (first|((with_reducible refine fun (K1 : KT) hK=>?_);refine r3 ⟨?_⟩)|((with_reducible show K1 _ _);subst hK;conv=>whnf)|(with_reducible refine a8 ?_)|refine st0 ⟨?_⟩|refine vP (qmi (hk := ?_) (hl := ?_) ..) ⟨?_⟩|refine eS (wR (h1 := ?_) ..) ⟨?_⟩|fail)
  all_goals repeat clear hK K1
  all_goals first|exact h.ro|exact h.mo|exact h.oo|exact h.co|exact h.rl|exact h.ml|exact h.ol|exact h.cl|exact Nat.le_trans h.sl (by decide)|exact Nat.le_trans h.tl (by decide)|exact ⟨⟨rfl,rfl,rfl,rfl,rfl,rfl,rfl,rfl,rfl,rfl,True.intro⟩⟩|skip
theorem cpk_at {l : List V.Path} (h : ∀ s,s ∈ l -> CpOk s) {k : Nat} (hk : (k : Int) < l.length) : CpOk (l.getD (k : Int).toNat K.paths.dflt) := by
  rw [Int.toNat_natCast];exact h _ (rF omG)
theorem qmj (l : List V.Path) (hcp : ∀ s,s ∈ l -> CpOk s) (h2 : l.length <= 1000) : CallsV Tryz.prog 24 [.dat (.seq .paths l)] (.dat (.seq .paths l)) := by
  refine oV Tryz.func24 ⟨?_⟩
  repeat' (first|((with_reducible refine fun (K1 : KT) hK=>?_);refine r3 ⟨?_⟩)|((with_reducible show K1 _ _);subst hK;conv=>whnf)|(with_reducible exact rfl)|refine st0 ⟨?_⟩|((with_reducible refine SplS.mk (fun h=>?_) (fun h=>?_)) <;> first|exact o4|(subst h;conv=>whnf)|(conv=>whnf))|refine f2 ⟨?_⟩ ⟨?_⟩|(refine y5 ({k : Nat // k <= l.length}) (fun ⟨k,hk⟩=>x5 Tryz.f24.ntmps [(0,.dat (.seq .paths l)),(3,.row 7),(9,.dat (.i l.length)),(10,.dat (.i k))] [(7,.row 36 .paths (l.take k ++ List.replicate (l.length - k) K.paths.dflt) false)]) (fun ⟨k,hk⟩=>l.length - k) ⟨0,Nat.zero_le _⟩ (SubP.sub (σ := [(7,some 7)]) ⟨⟨rfl,rfl,rfl⟩,⟨o0 ?_,rfl,o0 ?_,o0 ?_,trivial⟩,⟨⟨rr, ?_⟩,trivial⟩⟩) (fun ⟨k,hk⟩=>?_);rotate_right;conv=>whnf)|(refine b6 (⟨k + 1, ?_⟩ : {k : Nat // k <= l.length}) ?_ (SubP.sub (σ := [(7,some 7)]) ⟨⟨rfl,rfl,rfl⟩,⟨o0 ?_,rfl,o0 ?_,o0 ?_,trivial⟩,⟨⟨rr, ?_⟩,trivial⟩⟩))|refine vP (qmk (h := ?_) ..) ⟨?_⟩|(intro h;conv=>whnf))
  all_goals repeat clear hK K1
  all_goals (try simp only [uD] at *)
  all_goals first|(with_reducible assumption)|((with_reducible show CpOk _);exact cpk_at hcp asmR)|exact congrArg (Dat.int .i64) (wrap_succ asmR asmR).symm|((with_reducible show (_ : Int) <= _);first|omega|(show (_ : Int) * ((176 : Nat) : Int) <= _;omega))|((with_reducible show (_ : Int) < _);first|omega|(rw [uP hk];omega))|((with_reducible show (_ : Nat) <= _);omega)|((with_reducible show (_ : Nat) < _);first|((try dsimp only);omega)|(rw [uP hk];omega))|exact congrArg (Sigma.mk K.paths) ((tkR_s asmR).trans rfl)|exact congrArg (Dat.seq K.paths) (tkR_e asmR).symm|exact rfl|skip
theorem fr8M {B : List Blk} {L : List Nat} {y : V.State} {pc ic cd sp : Int} {rg mm sk ot : List Int} (h : y = ⟨pc,rg,mm,sk,ic,ot,cd,sp⟩) :
    frzM B (datS y) (AV.numM L (.agg [.dat (.int .i64 pc),.dat (.seq .ints rg),.dat (.seq .ints mm),.dat (.seq .ints sk),.dat (.int .i64 ic),.dat (.seq .ints ot),.dat (.int .i64 cd),.dat (.int .i64 sp)])) := by
  subst h
  exact ⟨rfl,rfl,rfl,rfl,rfl,rfl,rfl,rfl,True.intro⟩
theorem evS_eq (σ : ByteArray -> Int) (s : V.Path) : n5 σ s = ⟨s.pc,y6 σ s.regs,y6 σ s.mem,s.stack,s.inn,y6 σ s.out,s.code,s.steps⟩ := by
  unfold n5;rw [mS,mS,mS]
/-! ### all inputs -/
def rE (w inn : Int) : Int := IntKind.i64.wrap (1 * 2 ^ (min (IntKind.i64.wrap (w * inn)).toNat IntKind.i64.bits))
def allX (w inn n : Int) (j : Nat) : Int := Int.fdiv n (2 ^ (min (IntKind.i64.wrap ((inn - 1 - j) * w)).toNat IntKind.i64.bits))
def yI (w inn n : Int) : Nat -> List Int
  | 0=>[]
  | j + 1=>yI w inn n j ++ [u9 w (allX w inn n j)]
def qE (w inn : Int) : Nat -> List (List Int)
  | 0=>[]
  | n + 1=>qE w inn n ++ [yI w inn n inn.toNat]
def aD (w inn : Int) : List (List Int) := if IntKind.i64.wrap (w * inn) > 12 then [] else qE w inn (rE w inn).toNat
theorem zS {w inn n : Int} : ∀ j,(yI w inn n j).length = j
  | 0=>rfl
  | j + 1=>by rw [yI,List.length_append,zS j];rfl
theorem yY {w inn : Int} : ∀ n,(qE w inn n).length = n
  | 0=>rfl
  | n + 1=>by rw [qE,List.length_append,yY n];rfl
theorem qhm {w inn n : Int} (hw : inP w 1 16 = true) : ∀ j,∀ x,x ∈ yI w inn n j -> wordP w x = true
  | 0,_,h=>by cases h
  | j + 1,x,h=>by
    rw [yI] at h
    rcases List.mem_append.1 h with h|h
    . exact qhm hw j x h
    . rw [List.mem_singleton] at h;subst h;exact wordOf_word _ hw
theorem of_inq {p : V.Prog} {l : List Int} (hp : i4 p = true) (hl : (l.length : Int) = p.inn) (hw : ∀ x,x ∈ l -> wordP p.w x = true) : s8 p l = true := by
  unfold s8
  rw [hp,List.all_eq_true.2 hw,hl,beq_self_eq_true];rfl
theorem qhl {p : V.Prog} (hp : i4 p = true) : ∀ n,∀ l,l ∈ qE p.w p.inn n -> s8 p l = true
  | 0,_,h=>by cases h
  | n + 1,l,h=>by
    rw [qE] at h
    rcases List.mem_append.1 h with h|h
    . exact qhl hp n l h
    . rw [List.mem_singleton] at h
      subst h
      have hm := a7 hp
      exact of_inq hp (by rw [zS];omega) (qhm (progP_w hp) _)
theorem allI_in {p : V.Prog} (hp : i4 p = true) {l : List Int} (h : l ∈ aD p.w p.inn) : s8 p l = true := by
  unfold aD at h
  split at h
  . cases h
  . exact qhl hp _ l h
theorem al_m {w inn : Int} (hw : 2 <= w /\ w <= 8) (hi : 0 <= inn /\ inn <= 3) : 0 <= w * inn /\ w * inn <= 24 := by
  have : inn = 0 \/ inn = 1 \/ inn = 2 \/ inn = 3 := by omega
  rcases this with rfl|rfl|rfl|rfl <;> omega
theorem al_w {w inn : Int} (hw : 2 <= w /\ w <= 8) (hi : 0 <= inn /\ inn <= 3) : IntKind.i64.wrap (w * inn) = w * inn := by
  have := al_m hw hi
  exact j3 omG omG
theorem al_b {w inn : Int} (hw : 2 <= w /\ w <= 8) (hi : 0 <= inn /\ inn <= 3) (h : ¬ IntKind.i64.wrap (w * inn) > 12) : 0 <= rE w inn /\ rE w inn <= 4096 := by
  have h1 := al_m hw hi
  have h2 := al_w hw hi
  rw [h2] at h
  have h3 : (2 : Int) ^ (min (w * inn).toNat IntKind.i64.bits) <= 4096 := by
    have q : (2 : Nat) ^ (min (w * inn).toNat IntKind.i64.bits) <= 2 ^ 12 := Nat.pow_le_pow_right (by decide) omG
    have q2 : (((2 : Nat) ^ (min (w * inn).toNat IntKind.i64.bits) : Nat) : Int) <= ((2 ^ 12 : Nat) : Int) := by exact_mod_cast q
    rw [Int.natCast_pow] at q2
    exact q2
  have h4 : (0 : Int) <= 2 ^ (min (w * inn).toNat IntKind.i64.bits) := Int.pow_nonneg (by decide)
  unfold rE
  rw [h2,Int.one_mul,j3 omG omG]
  exact ⟨h4,h3⟩
theorem al_k {w inn : Int} {j : Nat} (hw : 2 <= w /\ w <= 8) (hi : inn <= 3) (h : inn - 1 - (j : Int) >= 0) : 0 <= IntKind.i64.wrap ((inn - 1 - j) * w) := by
  have : inn - 1 - (j : Int) = 0 \/ inn - 1 - (j : Int) = 1 \/ inn - 1 - (j : Int) = 2 := by omega
  rcases this with e|e|e <;> rw [e,j3 omG omG] <;> omega
theorem al_e {w inn : Int} {n j : Nat} (hj : (j : Int) <= inn) (h : ¬ inn - 1 - (j : Int) >= 0) : qE w inn (n + 1) = qE w inn n ++ [yI w inn n j] := by
  rw [qE,show inn.toNat = j by omega]
theorem al_i {w inn : Int} {n : Nat} (h12 : ¬ IntKind.i64.wrap (w * inn) > 12) (hn : (n : Int) <= rE w inn) (h : ¬ (n : Int) < rE w inn) : aD w inn = qE w inn n := by
  unfold aD
  rw [if_neg h12,show (rE w inn).toNat = n by omega]
theorem al_s {w inn : Int} {n : Nat} (h : (n : Int) < IntKind.i64.wrap (1 * 2 ^ (min (IntKind.i64.wrap (w * inn)).toNat IntKind.i64.bits))) : (n : Int) < rE w inn := h
theorem al_t {w inn : Int} {n : Nat} (h : ¬ (n : Int) < IntKind.i64.wrap (1 * 2 ^ (min (IntKind.i64.wrap (w * inn)).toNat IntKind.i64.bits))) : ¬ (n : Int) < rE w inn := h
theorem al_0 {w inn : Int} (h12 : IntKind.i64.wrap (w * inn) > 12) : aD w inn = [] := if_pos h12
theorem qjz (w mem inn : Int) (code : List V.Ins) (hp : i4 ⟨w,mem,inn,code⟩ = true) : CallsV Tryz.prog 9 [.agg [.dat (.i w),.dat (.i mem),.dat (.i inn),.dat (.seq .inss code)]] (.dat (.seq .intss (aD w inn))) := by
  refine oV Tryz.func9 ⟨?_⟩
  repeat' (first|((with_reducible refine fun (K1 : KT) hK=>?_);refine r3 ⟨?_⟩)|((with_reducible show K1 _ _);subst hK;conv=>whnf)|(with_reducible exact rfl)|refine st0 ⟨?_⟩|((with_reducible refine SplS.mk (fun h=>?_) (fun h=>?_)) <;> first|exact u5|(subst h;conv=>whnf)|(conv=>whnf))|refine f2 ⟨?_⟩ ⟨?_⟩|(refine y5 ({n : Nat // (n : Int) <= rE w inn}) (fun ⟨n,hn⟩=>x5 Tryz.f9.ntmps [(1,.ptr 1 0),(3,.row 3),(4,.dat (.i n))] [(1,.box [.dat (.i w),.dat (.i mem),.dat (.i inn),.dat (.seq .inss code)]),(3,.row 33 .intss (qE w inn n) false)]) (fun ⟨n,hn⟩=>(rE w inn).toNat - n) ⟨0, ?_⟩ (SubP.sub (σ := [(1,some 1),(3,some 18)]) ⟨⟨rfl,rfl,rfl⟩,⟨rr,rfl,o0 ?_,trivial⟩,⟨⟨j0 ?_,j0 ?_,j0 ?_,j0 ?_,trivial⟩,⟨rr, ?_⟩,trivial⟩⟩) (fun ⟨n,hn⟩=>?_);rotate_right;conv=>whnf)|(refine b6 (⟨n + 1, ?_⟩ : {n : Nat // (n : Int) <= rE w inn}) ?_ (SubP.sub (σ := [(1,some 1),(3,some 52)]) ⟨⟨rfl,rfl,rfl⟩,⟨rr,rfl,o0 ?_,trivial⟩,⟨⟨j0 ?_,j0 ?_,j0 ?_,j0 ?_,trivial⟩,⟨rr, ?_⟩,trivial⟩⟩))|(refine y5 ({j : Nat // (j : Int) <= inn}) (fun ⟨j,hj⟩=>x5 Tryz.f9.ntmps [(1,.ptr 1 0),(3,.row 3),(4,.dat (.i n)),(5,.row 5),(6,.dat (.i (inn - 1 - j)))] [(1,.box [.dat (.i w),.dat (.i mem),.dat (.i inn),.dat (.seq .inss code)]),(3,.row 33 .intss (qE w inn n) false),(5,.row 3 .ints (yI w inn n j) false)]) (fun ⟨j,hj⟩=>inn.toNat - j) ⟨0, ?_⟩ (SubP.sub (σ := [(1,some 1),(3,some 3),(5,some 29)]) ⟨⟨rfl,rfl,rfl⟩,⟨rr,rfl,o0 ?_,rfl,o0 ?_,trivial⟩,⟨⟨j0 ?_,j0 ?_,j0 ?_,j0 ?_,trivial⟩,⟨rr, ?_⟩,⟨rr, ?_⟩,trivial⟩⟩) (fun ⟨j,hj⟩=>?_);rotate_right;conv=>whnf)|(refine b6 (⟨j + 1, ?_⟩ : {j : Nat // (j : Int) <= inn}) ?_ (SubP.sub (σ := [(1,some 1),(3,some 3),(5,some 48)]) ⟨⟨rfl,rfl,rfl⟩,⟨rr,rfl,o0 ?_,rfl,o0 ?_,trivial⟩,⟨⟨j0 ?_,j0 ?_,j0 ?_,j0 ?_,trivial⟩,⟨rr, ?_⟩,⟨rr, ?_⟩,trivial⟩⟩))|refine vP (kN ..) ⟨?_⟩|refine vP (tK ..) ⟨?_⟩|fail)
  all_goals repeat clear hK K1
  all_goals (have hm := a7 hp;dsimp only at hm)
  all_goals (have hw : 2 <= w /\ w <= 8 := hm.2.2.2.2.2.2.2;have hi : 0 <= inn /\ inn <= 3 := ⟨hm.2.2.2.1,hm.2.2.2.2.1⟩)
  all_goals first|exact (al_b hw hi asmR).1|exact al_k hw hi.2 asmR|(rw [al_w hw hi];exact (al_m hw hi).1)|(have q2 := al_s (w := w) (inn := inn) (n := n) asmR;(try dsimp only);omega)|(have q := al_b hw hi asmR;have q2 := al_s (w := w) (inn := inn) (n := n) asmR;refine congrArg (Dat.int .i64) ?_;rw [j3 omG omG];rfl)|exact congrArg (Sigma.mk K.intss) (al_e hj asmR)|(refine congrArg (Dat.int .i64) ?_;rw [j3 omG omG];omega)|((with_reducible show Dat.seq _ _ = _);exact congrArg (Dat.seq K.intss) (al_i asmR hn (al_t asmR)))|((with_reducible show fE _ _ _);first|(rw [al_i asmR hn (al_t asmR)];exact rfl)|(rw [al_0 asmR];exact rfl))|(rw [al_0 asmR];exact rfl)|((with_reducible show (_ : Nat) <= maxLen);rw [zS];show j + 1 <= 2 ^ 63 - 1;omega)|((with_reducible show _ * _ <= _);rw [zS];exact Nat.le_trans (Nat.mul_le_mul_right _ (show j + 1 <= 4 by omega)) (by decide))|(have q := al_b hw hi asmR;(with_reducible show (_ : Nat) <= maxLen);rw [yY];show n + 1 <= 2 ^ 63 - 1;omega)|(have q := al_b hw hi asmR;(with_reducible show _ * _ <= _);rw [yY];exact Nat.le_trans (Nat.mul_le_mul_right _ (show n + 1 <= 4097 by omega)) (by decide))|exact rfl|skip
theorem qmp (L : List V.Val) (hv : VlsOk L) : CallsV Tryz.prog 110 [.dat (.seq .vals L)] (.dat (.bool true)) := by
  refine oV Tryz.func110 ⟨?_⟩
  repeat' (first|((with_reducible refine fun (K1 : KT) hK=>?_);refine r3 ⟨?_⟩)|((with_reducible show K1 _ _);subst hK;conv=>whnf)|(with_reducible exact rfl)|refine st0 ⟨?_⟩|((with_reducible refine SplS.mk (fun h=>?_) (fun h=>?_)) <;> first|exact u5|(subst h;conv=>whnf)|(conv=>whnf))|refine f2 ⟨?_⟩ ⟨?_⟩|(refine y5 ({k : Nat // k <= L.length}) (fun ⟨k,hk⟩=>x5 Tryz.f110.ntmps [(0,.dat (.seq .vals L)),(8,.dat (.seq .vals L)),(9,.dat (.i L.length)),(10,.dat (.i k))] []) (fun ⟨k,hk⟩=>L.length - k) ⟨0,Nat.zero_le _⟩ (SubP.sub (σ := []) ⟨⟨rfl,rfl,rfl⟩,⟨o0 ?_,o0 ?_,o0 ?_,o0 ?_,trivial⟩,trivial⟩) (fun ⟨k,hk⟩=>?_);rotate_right;conv=>whnf)|(refine b6 (⟨k + 1, ?_⟩ : {k : Nat // k <= L.length}) ?_ (SubP.sub (σ := []) ⟨⟨rfl,rfl,rfl⟩,⟨o0 ?_,o0 ?_,o0 ?_,o0 ?_,trivial⟩,trivial⟩))|refine vP (xW ..) ⟨?_⟩|refine vP (bE ..) ⟨?_⟩|(intro h;conv=>whnf))
  all_goals repeat clear hK K1
  all_goals (have hl := hv.len)
  all_goals first|(with_reducible assumption)|exact congrArg (Dat.int .i64) (wrap_succ asmR asmR).symm|(exfalso;omega)|exact wB (vl_nm hv asmR) asmR|exact wB (vl_wd hv asmR) asmR|exact vl_ge hv asmR asmR asmR|(have e : IntKind.i64.wrap ((k : Int) - 1) = (k : Int) - 1 := j3 omG omG;rw [e];omega)|exact congrArg (Dat.int .i64) (wrap_succ asmR asmR).symm|((with_reducible show (_ : Int) <= _);omega)|((with_reducible show (_ : Nat) <= _);omega)|((with_reducible show (_ : Nat) < _);((try dsimp only);omega))|exact rfl|skip
theorem qel (op wt n : Int) (nm : ByteArray) (ks : List V.Term) (w : Int) (inp : List Int) (he : EvH w inp ⟨op,wt,n,nm,ks⟩) : CallsV Tryz.prog 75 [.agg [.dat (.i op),.dat (.i wt),.dat (.i n),.dat (.str nm),.dat (.seq .terms ks)],.dat (.seq .vals (d9 w inp inp.length))] (.tup [.dat (.i (evT (j2 inp) ⟨op,wt,n,nm,ks⟩)),.dat (.bool true)]) := by
  refine oV Tryz.func75 ⟨?_⟩
  repeat' (first|((with_reducible refine fun (K1 : KT) hK=>?_);refine r3 ⟨?_⟩)|((with_reducible show K1 _ _);subst hK;conv=>whnf)|(with_reducible exact rfl)|refine st0 ⟨?_⟩|((with_reducible refine SplS.mk (fun h=>?_) (fun h=>?_)) <;> first|exact u5|(subst h;conv=>whnf)|(conv=>whnf))|refine f2 ⟨?_⟩ ⟨?_⟩|(refine y5 ({k : Nat // k <= inp.length}) (fun ⟨k,hk⟩=>x5 Tryz.f75.ntmps [(1,.dat (.seq .vals (d9 w inp inp.length))),(2,.ptr 2 0),(6,.mp 6),(7,.mp 7),(24,.dat (.seq .vals (d9 w inp inp.length))),(25,.dat (.i (d9 w inp inp.length).length)),(26,.dat (.i k))] [(2,.box [.dat (.i op),.dat (.i wt),.dat (.i n),.dat (.str nm),.dat (.seq .terms ks)]),(6,.mp (iA inp k) false),(7,.mp (yE w k) false)]) (fun ⟨k,hk⟩=>inp.length - k) ⟨0,Nat.zero_le _⟩ (SubP.sub (σ := [(2,some 2),(6,some 22),(7,some 23)]) ⟨⟨rfl,rfl,rfl⟩,⟨o0 ?_,rr,rfl,rfl,o0 ?_,o0 ?_,o0 ?_,trivial⟩,⟨⟨j0 ?_,j0 ?_,j0 ?_,j0 ?_,j0 ?_,trivial⟩,⟨?_, ?_⟩,⟨?_, ?_⟩,trivial⟩⟩) (fun ⟨k,hk⟩=>?_);rotate_right;conv=>whnf)|(refine b6 (⟨k + 1, ?_⟩ : {k : Nat // k <= inp.length}) ?_ (SubP.sub (σ := [(2,some 2),(6,some 6),(7,some 7)]) ⟨⟨rfl,rfl,rfl⟩,⟨o0 ?_,rr,rfl,rfl,o0 ?_,o0 ?_,o0 ?_,trivial⟩,⟨⟨j0 ?_,j0 ?_,j0 ?_,j0 ?_,j0 ?_,trivial⟩,⟨?_, ?_⟩,⟨?_, ?_⟩,trivial⟩⟩))|(refine y5 ({k : Nat // k <= l2.length}) (fun ⟨k,hk⟩=>x5 Tryz.f75.ntmps [(2,.ptr 2 0),(6,.mp 6),(7,.mp 7),(42,.row 42),(43,.dat (.i l2.length)),(44,.dat (.i k))] [(2,.box [.dat (.i op),.dat (.i wt),.dat (.i n),.dat (.str nm),.dat (.seq .terms ks)]),(6,.mp (iA inp inp.length) false),(7,.mp (yE w inp.length) false),(42,.row 112 .vals l2 false)]) (fun ⟨k,hk⟩=>l2.length - k) ⟨0,Nat.zero_le _⟩ (SubP.sub (σ := [(2,some 2),(6,some 6),(7,some 7),(42,some 43000)]) ⟨⟨rfl,rfl,rfl⟩,⟨rr,rfl,rfl,rfl,o0 ?_,o0 ?_,trivial⟩,⟨⟨j0 ?_,j0 ?_,j0 ?_,j0 ?_,j0 ?_,trivial⟩,⟨?_, ?_⟩,⟨?_, ?_⟩,⟨rr, ?_⟩,trivial⟩⟩) (fun ⟨k,hk⟩=>?_);rotate_right;conv=>whnf)|(refine b6 (⟨k + 1, ?_⟩ : {k : Nat // k <= l2.length}) ?_ (SubP.sub (σ := [(2,some 2),(6,some 6),(7,some 7),(42,some 42)]) ⟨⟨rfl,rfl,rfl⟩,⟨rr,rfl,rfl,rfl,o0 ?_,o0 ?_,trivial⟩,⟨⟨j0 ?_,j0 ?_,j0 ?_,j0 ?_,j0 ?_,trivial⟩,⟨?_, ?_⟩,⟨?_, ?_⟩,⟨rr, ?_⟩,trivial⟩⟩))|refine vP (vR ..) ⟨?_⟩|refine vP (qmp (hv := ?_) ..) ⟨?_⟩|((with_reducible refine fcI (g := 111) ?_);refine ⟨_,_,qmn (ht := ?_) ..,rfl,fun res B hRB=>?_⟩;rotate_right;obtain ⟨l2,rfl,rfl,hvr⟩ := hRB;conv=>whnf)|refine gS (i_evM (ht := ?_) ..) ⟨?_⟩|(intro h;conv=>whnf))
  all_goals repeat clear hK K1
  all_goals (try simp only [bJ] at *)
  all_goals (have hl := he.len)
  all_goals first|(with_reducible assumption)|exact he.vls|exact he.ok|exact wB he.tp asmR|(exact Bool.noConfusion (show true = false by assumption))|exact congrArg (Dat.int .i64) (wrap_succ asmR asmR).symm|exact enV_s asmR|exact wdt_s hl asmR|exact congrArg (iA inp) (show inp.length = k by omega)|exact congrArg (yE w) (show inp.length = k by omega)|exact he.row1 hvr asmR asmR|exact he.row2 hvr asmR asmR|(refine congrArg Dat.i ?_;rw [tX hl])|((with_reducible show frzM _ _ _);first|exact frB rfl|exact frN (congrArg (fun σ=>evT σ ⟨op,wt,n,nm,ks⟩) (tX hl).symm)|exact frN (congrArg (fun σ=>evT σ ⟨op,wt,n,nm,ks⟩) (tX hl)))|(have z := bJ (w := w) (l := inp) (k := inp.length);(try dsimp only);omega)|exact congrArg (Dat.int .i64) (wrap_succ asmR asmR).symm|exact rfl|skip
theorem hk_s {σ : ByteArray -> Int} {l : List V.Term} {k : Nat} (h : (k : Int) < l.length) (ha : (l.take k).all (fun t=>evT σ t == 1) = true) (he : evT σ (l.getD (k : Int).toNat K.terms.dflt) = 1) : (l.take (k + 1)).all (fun t=>evT σ t == 1) = true := by
  rw [Int.toNat_natCast] at he
  rw [lH K.terms.dflt h,ha,he];rfl
theorem hk_n {p : V.Prog} {s : V.Path} {σ : ByteArray -> Int} {k : Nat} (hx : PX p s) (h : (k : Int) < s.cond.length) (he : ¬ evT σ (s.cond.getD (k : Int).toNat K.terms.dflt) = 1) : cE p σ s = false := by
  rw [mO hx]
  cases e : o7 σ s with
  | false=>rfl
  | true =>
    unfold o7 at e
    have hk : k < s.cond.length := by omega
    have q := List.all_eq_true.1 e s.cond[k] (List.getElem_mem hk)
    rw [Int.toNat_natCast,List.getD_eq_getElem?_getD,List.getElem?_eq_getElem hk] at he
    exact absurd (by simpa using q) he
theorem hk_e {p : V.Prog} {s : V.Path} {σ : ByteArray -> Int} {k : Nat} (hx : PX p s) (h : ¬ (k : Int) < s.cond.length) (ha : (s.cond.take k).all (fun t=>evT σ t == 1) = true) : cE p σ s = true := by
  rw [List.take_of_length_le omG] at ha
  rw [mO hx];exact ha
theorem evh_at {p : V.Prog} {w : Int} {l : List V.Term} {inp : List Int} (hq : ∀ t,t ∈ l -> Qt p w t) (hp : i4 p = true) (hl : InOk p inp) {k : Nat} (hk : (k : Int) < l.length) : EvH p.w inp (l.getD (k : Int).toNat K.terms.dflt) := by
  rw [Int.toNat_natCast];exact EvH.of (gD (P := Qt p w) hq omG) hp hl
theorem qmu (p : V.Prog) (s : V.Path) (inp : List Int) (hx : PX p s) (hi : s8 p inp = true) : CallsV Tryz.prog 35 [.agg [.dat (.i p.w),.dat (.i p.mem),.dat (.i p.inn),.dat (.seq .inss p.code)],.agg [.dat (.i s.pc),.dat (.seq .terms s.regs),.dat (.seq .terms s.mem),.dat (.seq .ints s.stack),.dat (.i s.inn),.dat (.seq .terms s.out),.dat (.i s.code),.dat (.i s.steps),.dat (.seq .terms s.cond),.dat (.seq .ints s.turns)],.dat (.seq .ints inp)] (.dat (.bool (cE p (j2 inp) s))) := by
  refine oV Tryz.func35 ⟨?_⟩
  repeat' (first|((with_reducible refine fun (K1 : KT) hK=>?_);refine r3 ⟨?_⟩)|((with_reducible show K1 _ _);subst hK;conv=>whnf)|(with_reducible exact rfl)|refine st0 ⟨?_⟩|((with_reducible refine SplS.mk (fun h=>?_) (fun h=>?_)) <;> first|exact u5|(subst h;conv=>whnf)|(conv=>whnf))|refine f2 ⟨?_⟩ ⟨?_⟩|(refine y5 ({k : Nat // (s.cond.take k).all (fun t=>evT (j2 inp) t == 1) = true}) (fun ⟨k,hk⟩=>x5 Tryz.f35.ntmps [(3,.ptr 3 0),(4,.ptr 4 0),(7,.dat (.seq .vals (d9 p.w inp inp.length))),(26,.dat (.i s.cond.length)),(27,.dat (.i k))] [(3,.box [.dat (.i p.w),.dat (.i p.mem),.dat (.i p.inn),.dat (.seq .inss p.code)]),(4,.box [.dat (.i s.pc),.dat (.seq .terms s.regs),.dat (.seq .terms s.mem),.dat (.seq .ints s.stack),.dat (.i s.inn),.dat (.seq .terms s.out),.dat (.i s.code),.dat (.i s.steps),.dat (.seq .terms s.cond),.dat (.seq .ints s.turns)])]) (fun ⟨k,hk⟩=>s.cond.length - k) ⟨0,rfl⟩ (SubP.sub (σ := [(3,some 3),(4,some 4)]) ⟨⟨rfl,rfl,rfl⟩,⟨rr,rr,o0 ?_,o0 ?_,o0 ?_,trivial⟩,⟨⟨j0 ?_,j0 ?_,j0 ?_,j0 ?_,trivial⟩,⟨j0 ?_,j0 ?_,j0 ?_,j0 ?_,j0 ?_,j0 ?_,j0 ?_,j0 ?_,j0 ?_,j0 ?_,trivial⟩,trivial⟩⟩) (fun ⟨k,hk⟩=>?_);rotate_right;conv=>whnf)|(refine b6 (⟨k + 1, ?_⟩ : {k : Nat // (s.cond.take k).all (fun t=>evT (j2 inp) t == 1) = true}) ?_ (SubP.sub (σ := [(3,some 3),(4,some 4)]) ⟨⟨rfl,rfl,rfl⟩,⟨rr,rr,o0 ?_,o0 ?_,o0 ?_,trivial⟩,⟨⟨j0 ?_,j0 ?_,j0 ?_,j0 ?_,trivial⟩,⟨j0 ?_,j0 ?_,j0 ?_,j0 ?_,j0 ?_,j0 ?_,j0 ?_,j0 ?_,j0 ?_,j0 ?_,trivial⟩,trivial⟩⟩))|refine vP (qms (hx := ?_) ..) ⟨?_⟩|refine vP (qmt ..) ⟨?_⟩|refine vP (qed (hl := ?_) ..) ⟨?_⟩|refine vP (qel (he := ?_) ..) ⟨?_⟩|(intro h;conv=>whnf))
  all_goals repeat clear hK K1
  all_goals (try simp only [V.Term.eta] at *)
  all_goals (have hin := tW hi;have hm := a7 hin.1;have hil := hin.2.len;have hcl := hx.i.cl)
  all_goals first|(with_reducible assumption)|exact hk_s asmR hk asmR|((with_reducible show EvH _ _ _);exact evh_at hx.q.c hx.i.hp hin.2 asmR)|(exact Bool.noConfusion (show true = false by assumption))|exact congrArg Dat.bool (hk_n hx asmR asmR)|exact congrArg Dat.bool (hk_e hx asmR hk)|exact congrArg (Dat.int .i64) (wrap_succ asmR asmR).symm|exact congrArg (Dat.int .i64) (wrap_succ asmR asmR).symm|((with_reducible show (_ : Int) <= _);omega)|((with_reducible show (_ : Nat) <= _);omega)|((with_reducible show (_ : Nat) < _);((try dsimp only);omega))|exact rfl|skip
theorem qej (w mem inn : Int) (code : List V.Ins) (pc : Int) (rg mm : List V.Term) (sk : List Int) (ic : Int) (ot : List V.Term) (cd sp : Int) (cn : List V.Term) (tr : List Int) (inp : List Int) (hx : PX ⟨w,mem,inn,code⟩ ⟨pc,rg,mm,sk,ic,ot,cd,sp,cn,tr⟩) (hi : s8 ⟨w,mem,inn,code⟩ inp = true) : CallsV Tryz.prog 35 [.agg [.dat (.i w),.dat (.i mem),.dat (.i inn),.dat (.seq .inss code)],.agg [.dat (.i pc),.dat (.seq .terms rg),.dat (.seq .terms mm),.dat (.seq .ints sk),.dat (.i ic),.dat (.seq .terms ot),.dat (.i cd),.dat (.i sp),.dat (.seq .terms cn),.dat (.seq .ints tr)],.dat (.seq .ints inp)] (.dat (.bool (cE ⟨w,mem,inn,code⟩ (j2 inp) ⟨pc,rg,mm,sk,ic,ot,cd,sp,cn,tr⟩))) := qmu ⟨w,mem,inn,code⟩ ⟨pc,rg,mm,sk,ic,ot,cd,sp,cn,tr⟩ inp hx hi
structure EvHs (w : Int) (inp : List Int) (l : List V.Term) : Prop where
  h : ∀ t,t ∈ l -> EvH w inp t
theorem EvHs.at {w : Int} {inp : List Int} {l : List V.Term} (h : EvHs w inp l) {k : Nat} (hk : (k : Int) < l.length) : EvH w inp (l.getD (k : Int).toNat K.terms.dflt) := by
  rw [Int.toNat_natCast];exact gD (P := EvH w inp) h.h omG
theorem EvHs.of {p : V.Prog} {w : Int} {l : List V.Term} {inp : List Int} (hq : ∀ t,t ∈ l -> Qt p w t) (hp : i4 p = true) (hl : InOk p inp) : EvHs p.w inp l := ⟨fun t ht=>EvH.of (hq t ht) hp hl⟩
noncomputable def vF (σ : ByteArray -> Int) (l : List V.Term) (k : Nat) : List Int := y6 σ (l.take k) ++ List.replicate (l.length - k) 0
theorem eTo_0 {σ : ByteArray -> Int} {l : List V.Term} : vF σ l 0 = List.replicate l.length 0 := by unfold vF;rw [List.take_zero,y6];rfl
theorem qfr {σ : ByteArray -> Int} {l : List V.Term} {k : Nat} (h : k <= l.length) : (vF σ l k).length = l.length := by unfold vF;rw [List.length_append,rX h,List.length_replicate];omega
theorem eTo_s {σ : ByteArray -> Int} {l : List V.Term} {k : Nat} (h : (k : Int) < l.length) : vF σ l (k + 1) = (vF σ l k).set (k : Int).toNat (evT σ (l.getD (k : Int).toNat K.terms.dflt)) := by
  unfold vF
  rw [Int.toNat_natCast,List.set_append_right _ _ (by rw [rX omG];exact Nat.le_refl _),rX omG,Nat.sub_self,show l.length - k = (l.length - (k + 1)) + 1 by omega,List.replicate_succ,List.set_cons_zero,evTs_s h,List.append_assoc]
  rfl
theorem eTo_e {σ : ByteArray -> Int} {l : List V.Term} {k : Nat} (hk : k <= l.length) (h : ¬ (k : Int) < l.length) : vF σ l k = y6 σ l := by
  unfold vF
  rw [List.take_of_length_le omG,show l.length - k = 0 by omega,List.replicate_zero,List.append_nil]
theorem qmg (l : List V.Term) (w : Int) (inp : List Int) (hes : EvHs w inp l) (hl : l.length <= 1000) : CallsV Tryz.prog 37 [.dat (.seq .terms l),.dat (.seq .vals (d9 w inp inp.length))] (.tup [.dat (.seq .ints (y6 (j2 inp) l)),.dat (.bool true)]) := by
  refine oV Tryz.func37 ⟨?_⟩
  repeat' (first|((with_reducible refine fun (K1 : KT) hK=>?_);refine r3 ⟨?_⟩)|((with_reducible show K1 _ _);subst hK;conv=>whnf)|(with_reducible exact rfl)|refine st0 ⟨?_⟩|((with_reducible refine SplS.mk (fun h=>?_) (fun h=>?_)) <;> first|exact u5|(subst h;conv=>whnf)|(conv=>whnf))|refine f2 ⟨?_⟩ ⟨?_⟩|(refine y5 ({k : Nat // k <= l.length}) (fun ⟨k,hk⟩=>x5 Tryz.f37.ntmps [(0,.dat (.seq .terms l)),(1,.dat (.seq .vals (d9 w inp inp.length))),(6,.row 12),(14,.dat (.i l.length)),(15,.dat (.i k))] [(12,.row 3 .ints (vF (j2 inp) l k) false)]) (fun ⟨k,hk⟩=>l.length - k) ⟨0,Nat.zero_le _⟩ (SubP.sub (σ := [(12,some 12)]) ⟨⟨rfl,rfl,rfl⟩,⟨o0 ?_,o0 ?_,rfl,o0 ?_,o0 ?_,trivial⟩,⟨⟨rr, ?_⟩,trivial⟩⟩) (fun ⟨k,hk⟩=>?_);rotate_right;conv=>whnf)|(refine b6 (⟨k + 1, ?_⟩ : {k : Nat // k <= l.length}) ?_ (SubP.sub (σ := [(12,some 12)]) ⟨⟨rfl,rfl,rfl⟩,⟨o0 ?_,o0 ?_,rfl,o0 ?_,o0 ?_,trivial⟩,⟨⟨rr, ?_⟩,trivial⟩⟩))|refine vP (qel (he := ?_) ..) ⟨?_⟩|(intro h;conv=>whnf))
  all_goals repeat clear hK K1
  all_goals (try simp only [V.Term.eta] at *)
  all_goals first|(with_reducible assumption)|((with_reducible show EvH _ _ _);exact hes.at asmR)|(exact Bool.noConfusion (show true = false by assumption))|exact congrArg (Sigma.mk K.ints) (eTo_s asmR)|exact congrArg (Sigma.mk K.ints) eTo_0|((with_reducible show frzM _ _ _);first|exact frB rfl|(rw [eTo_e hk asmR];exact rfl)|(have e : vF (j2 inp) l k = y6 (j2 inp) l := eTo_e hk asmR;rw [e];exact rfl))|exact congrArg (Dat.int .i64) (wrap_succ asmR asmR).symm|((with_reducible show (_ : Int) <= _);first|omega|(show (_ : Int) * ((8 : Nat) : Int) <= _;omega))|((with_reducible show (_ : Int) < _);first|omega|(rw [qfr hk];omega))|((with_reducible show (_ : Nat) < _);first|((try dsimp only);omega)|(rw [qfr hk];omega))|exact congrArg (Dat.int .i64) (wrap_succ asmR asmR).symm|((with_reducible show (_ : Nat) <= _);omega)|exact rfl|skip
theorem qmz (l : List Int) (h1 : l.length <= 1048576) : CallsV Tryz.prog 38 [.dat (.seq .ints l)] (.dat (.seq .ints l)) := (wR l h1).toV fun res B ⟨h1,h2⟩=>by subst h1 h2;exact rfl
theorem qmw (w mem inn : Int) (code : List V.Ins) (pc : Int) (rg mm : List V.Term) (sk : List Int) (ic : Int) (ot : List V.Term) (cd sp : Int) (cn : List V.Term) (tr : List Int) (inp : List Int) (hx : PX ⟨w,mem,inn,code⟩ ⟨pc,rg,mm,sk,ic,ot,cd,sp,cn,tr⟩) (hi : s8 ⟨w,mem,inn,code⟩ inp = true) (hc : o7 (j2 inp) ⟨pc,rg,mm,sk,ic,ot,cd,sp,cn,tr⟩ = true) : CallsV Tryz.prog 11 [.agg [.dat (.i w),.dat (.i mem),.dat (.i inn),.dat (.seq .inss code)],.agg [.dat (.i pc),.dat (.seq .terms rg),.dat (.seq .terms mm),.dat (.seq .ints sk),.dat (.i ic),.dat (.seq .terms ot),.dat (.i cd),.dat (.i sp),.dat (.seq .terms cn),.dat (.seq .ints tr)],.dat (.seq .ints inp)] (.tup [datS (n5 (j2 inp) ⟨pc,rg,mm,sk,ic,ot,cd,sp,cn,tr⟩),.dat (.bool true)]) := by
  refine oV Tryz.func11 ⟨?_⟩
  repeat' (first|((with_reducible refine fun (K1 : KT) hK=>?_);refine r3 ⟨?_⟩)|((with_reducible show K1 _ _);subst hK;conv=>whnf)|refine st0 ⟨?_⟩|((with_reducible refine SplS.mk (fun h=>?_) (fun h=>?_)) <;> first|exact yC|(conv=>whnf))|refine f2 ⟨?_⟩ ⟨?_⟩|refine vP (qej (hx := ?_) (hi := ?_) ..) ⟨?_⟩|refine vP (qed (hl := ?_) ..) ⟨?_⟩|refine vP (qmg (hes := ?_) (hl := ?_) ..) ⟨?_⟩|refine vE (qmz (h1 := ?_) ..) ⟨?_⟩|fail)
  all_goals repeat clear hK K1
  all_goals (have hin := tW hi;have hm := a7 hin.1;have hil := hin.2.len;dsimp only at hm hil;have h1 : rg.length = 4 := hx.i.rl;have h2 : (mm.length : Int) = mem := hx.i.ml;have h3 : ot.length <= 6 := hx.i.ol;have h4 : sk.length <= 3 := hx.i.sl)
  all_goals first|exact True.intro|(with_reducible assumption)|exact EvHs.of (p := ⟨w,mem,inn,code⟩) hx.q.r hx.i.hp hin.2|exact EvHs.of (p := ⟨w,mem,inn,code⟩) hx.q.m hx.i.hp hin.2|exact EvHs.of (p := ⟨w,mem,inn,code⟩) hx.q.o hx.i.hp hin.2|exact wB ((mO hx).trans hc) asmR|(exact Bool.noConfusion (show true = false by assumption))|((with_reducible show frzM _ _ _);first|exact frB rfl|exact fr8M (evS_eq _ _))|((with_reducible show (_ : Nat) <= _);omega)|skip
section
variable {p : V.Prog} {σ : ByteArray -> Int} {L : List V.Path} {k : Nat}
theorem en_y (h : cE p σ (L.getD (k : Int).toNat K.paths.dflt) = true) : aB p σ L (k + 1) = aB p σ L k ++ [(k : Int)] := by
  rw [Int.toNat_natCast] at h;rw [aB,if_pos h]
theorem en_n (h : cE p σ (L.getD (k : Int).toNat K.paths.dflt) = false) : aB p σ L k = aB p σ L (k + 1) := by
  rw [Int.toNat_natCast] at h;rw [aB,if_neg (by rw [h];exact Bool.false_ne_true)]
theorem qfn : ∀ {k : Nat},(aB p σ L k).length <= k
  | 0=>Nat.le_refl _
  | k + 1=>by
    have := qfn (k := k)
    rw [aB]
    split
    . rw [List.length_append,List.length_singleton];omega
    . omega
theorem pxs_at (h : ∀ s,s ∈ L -> PX p s) (hk : (k : Int) < L.length) : PX p (L.getD (k : Int).toNat K.paths.dflt) := by
  rw [Int.toNat_natCast];exact h _ (rF omG)
end
theorem qmx (w mem inn : Int) (code : List V.Ins) (L : List V.Path) (inp : List Int) (hpx : ∀ s,s ∈ L -> PX ⟨w,mem,inn,code⟩ s) (h2 : L.length <= 1000) (hi : s8 ⟨w,mem,inn,code⟩ inp = true) : CallsV Tryz.prog 34 [.agg [.dat (.i w),.dat (.i mem),.dat (.i inn),.dat (.seq .inss code)],.dat (.seq .paths L),.dat (.seq .ints inp)] (.dat (.seq .ints (aB ⟨w,mem,inn,code⟩ (j2 inp) L L.length))) := by
  refine oV Tryz.func34 ⟨?_⟩
  repeat' (first|((with_reducible refine fun (K1 : KT) hK=>?_);refine r3 ⟨?_⟩)|((with_reducible show K1 _ _);subst hK;conv=>whnf)|(with_reducible exact rfl)|refine st0 ⟨?_⟩|((with_reducible refine SplS.mk (fun h=>?_) (fun h=>?_)) <;> first|exact u5|(subst h;conv=>whnf)|(conv=>whnf))|refine f2 ⟨?_⟩ ⟨?_⟩|(refine y5 ({k : Nat // k <= L.length}) (fun ⟨k,hk⟩=>x5 Tryz.f34.ntmps [(2,.dat (.seq .ints inp)),(3,.ptr 3 0),(7,.row 7),(10,.dat (.seq .paths L)),(11,.dat (.i L.length)),(12,.dat (.i k))] [(3,.box [.dat (.i w),.dat (.i mem),.dat (.i inn),.dat (.seq .inss code)]),(7,.row 3 .ints (aB ⟨w,mem,inn,code⟩ (j2 inp) L k) false)]) (fun ⟨k,hk⟩=>L.length - k) ⟨0,Nat.zero_le _⟩ (SubP.sub (σ := [(3,some 3),(7,none)]) ⟨⟨rfl,rfl,rfl⟩,⟨o0 ?_,rr,rfl,o0 ?_,o0 ?_,o0 ?_,trivial⟩,⟨⟨j0 ?_,j0 ?_,j0 ?_,j0 ?_,trivial⟩, ?_,trivial⟩⟩) (fun ⟨k,hk⟩=>?_);rotate_right;conv=>whnf)|(refine b6 (⟨k + 1, ?_⟩ : {k : Nat // k <= L.length}) ?_ (SubP.sub (σ := [(3,some 3),(7,some 7)]) ⟨⟨rfl,rfl,rfl⟩,⟨o0 ?_,rr,rfl,o0 ?_,o0 ?_,o0 ?_,trivial⟩,⟨⟨j0 ?_,j0 ?_,j0 ?_,j0 ?_,trivial⟩,⟨rr, ?_⟩,trivial⟩⟩))|(refine b6 (⟨k + 1, ?_⟩ : {k : Nat // k <= L.length}) ?_ (SubP.sub (σ := [(3,some 3),(7,some 24)]) ⟨⟨rfl,rfl,rfl⟩,⟨o0 ?_,rr,rfl,o0 ?_,o0 ?_,o0 ?_,trivial⟩,⟨⟨j0 ?_,j0 ?_,j0 ?_,j0 ?_,trivial⟩,⟨rr, ?_⟩,trivial⟩⟩))|refine vP (qej (hx := ?_) (hi := ?_) ..) ⟨?_⟩|(intro h;conv=>whnf))
  all_goals repeat clear hK K1
  all_goals (try simp only [uD] at *)
  all_goals (have en := @qfn ⟨w,mem,inn,code⟩ (j2 inp) L)
  all_goals first|(with_reducible assumption)|((with_reducible show PX _ _);exact pxs_at hpx asmR)|exact congrArg (Sigma.mk K.ints) (en_y asmR)|exact congrArg (Sigma.mk K.ints) (en_n asmR).symm|(have e : L.length = k := omG;rw [e])|(have q := @en k;(with_reducible show (_ : Nat) <= maxLen);show _ + 1 <= 2 ^ 63 - 1;omega)|(have q := @en k;(with_reducible show _ * _ <= _);exact Nat.le_trans (Nat.mul_le_mul_right _ (show _ + 1 <= 1001 by omega)) (by decide))|exact congrArg (Dat.int .i64) (wrap_succ asmR asmR).symm|((with_reducible show (_ : Int) <= _);omega)|((with_reducible show (_ : Nat) <= _);omega)|((with_reducible show (_ : Nat) < _);((try dsimp only);omega))|exact rfl|skip
end Vg
