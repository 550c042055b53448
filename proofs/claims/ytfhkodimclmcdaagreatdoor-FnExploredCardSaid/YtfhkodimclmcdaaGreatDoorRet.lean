/- Results of contracts in other shapes: a nil slice as a row, a tree given up. No condition. -/
import Derived.Test.YtfhkodimclmcdaaGreatDoorTy
import Derived.Shelf.Small.Strs
import Derived.Shelf.SlSortCmp.NoneTotal
import Derived.Sort.LotA
namespace Vg
open Go
theorem CallsF.nilRow {P : Program} {f : FuncId} {args : List AV} {fr : Bool} {T : Nat} {κ : K} {l : List κ.T} (h : CallsF P f args fr fun res B=>(res = .nils /\ B = [] /\ l.length = 0) \/ (res = .row 0 /\ B = [.row T κ l false])) :
 CallsF P f args fr fun res B=>res = .row 0 /\ B = [.row T κ l false] := by
 refine ⟨h.1,fun w Im vs h1 h2 h3=>?_⟩
 refine (h.2 w Im vs h1 h2 h3).mono fun e w' he=>?_
 obtain ⟨v,res,B',ρ',Im',rfl,hR,hv,hE,hX⟩ := he
 rcases hR with ⟨rfl,rfl,hl⟩|⟨rfl,rfl⟩
 . obtain rfl := cH hv
   refine ⟨_,.row 0,[.row T κ l false],fun _=>none,Im',rfl,⟨rfl,rfl⟩,.rowN 0 rfl,⟨fun i b hi=>?_,fun i j r s x _ _ hr=>(by cases hr),fun i r _ hr=>(by cases hr),fun i r x _ hr=>(by cases hr),fun i r x o _ hr=>(by cases hr),hE.imlt,fun i b r o _ hr=>(by cases hr)⟩,
    ⟨fun i r x _ hr=>(by cases hr),hX.im0,hX.imNew,hX.keep,hX.frame,hX.grow,hX.os,hX.tape,hX.output,fun i p hp=>(by cases hp)⟩⟩
   cases i with
   | zero=>cases hi;exact hl
   | succ i=>cases hi
 . exact ⟨_,_,_,ρ',Im',rfl,⟨rfl,rfl⟩,hv,hE,hX⟩
theorem CallsF.melt {P : Program} {f : FuncId} {args : List AV} {fr : Bool} {T : Nat} {κ : K} {l : List κ.T} (h : CallsF P f args fr fun res B=>res = .row 0 /\ B = [.tree T κ l]) :
 CallsF P f args fr fun res B=>res = .dat (.seq κ l) /\ B = [] := by
 refine ⟨h.1,fun w Im vs h1 h2 h3=>?_⟩
 refine (h.2 w Im vs h1 h2 h3).mono fun e w' he=>?_
 obtain ⟨v,res,B',ρ',Im',rfl,⟨rfl,rfl⟩,hv,hE,hX⟩ := he
 have hi : (fun j=>[Blk.tree T κ l][j]?) 0 = some (.tree T κ l) := rfl
 have hiN : (fun j=>[Blk.tree T κ l][j]?) 0 ≠ none := by simp
 refine ⟨v,.dat (.seq κ l),[],ρ',fun b o=>Im' b o \/ ∃ r,ρ' 0 = some r /\ r.has b,rfl,⟨rfl,rfl⟩,.dat _ _ (vT hE hi hv fun r x o hr hx => .inr ⟨r,hr,hx⟩),
  ⟨fun i b hb=>(by simp at hb),fun i j r s x hb=>(by simp at hb),fun i r hb=>(by simp at hb),fun i r x hb=>(by simp at hb),fun i r x o hb=>(by simp at hb),fun b o hb=>?_,fun i b r o hb=>(by simp at hb)⟩,
  ⟨fun i r x hb=>(by simp at hb),fun b o hb => .inl (hX.im0 b o hb),fun b o hb=>?_,hX.keep,hX.frame,hX.grow,hX.os,hX.tape,hX.output,fun i p hp=>(by cases hp)⟩⟩
 . rcases hb with hb|⟨r,hr,hx⟩
   . exact hE.imlt b o hb
   . exact hE.lt hiN hr hx
 . rcases hb with hb|⟨r,hr,hx⟩
   . exact hX.imNew b o hb
   . exact .inr (hX.own 0 r b hiN hr hx)
theorem CallsG.mono {P : Program} {f : FuncId} {args : List AV} {Bg : List Blk} {k : Nat} {R R' : AV -> List Blk -> Prop} (h : CallsG P f args Bg k R) (hR : ∀ res B,R res B -> R' res B) : CallsG P f args Bg k R' := by
 refine ⟨h.1,fun w Im ρ vs h1 h2 h3 h4=>?_⟩
 refine (h.2 w Im ρ vs h1 h2 h3 h4).mono fun e w' he=>?_
 obtain ⟨v,res,B',ρ',Im',he,hRR,hX⟩ := he
 exact ⟨v,res,B',ρ',Im',he,hR _ _ hRR,hX⟩
theorem CallsF.mono {P : Program} {f : FuncId} {args : List AV} {fr : Bool} {R R' : AV -> List Blk -> Prop} (h : CallsF P f args fr R) (hR : ∀ res B,R res B -> R' res B) : CallsF P f args fr R' := by
 refine ⟨h.1,fun w Im vs h1 h2 h3=>?_⟩
 refine (h.2 w Im vs h1 h2 h3).mono fun e w' he=>?_
 obtain ⟨v,res,B',ρ',Im',he,hRR,hX⟩ := he
 exact ⟨v,res,B',ρ',Im',he,hR _ _ hRR,hX⟩
theorem CallsF.toE {P : Program} {f : FuncId} {args : List AV} {fr : Bool} {R : AV -> List Blk -> Prop} {Q : AV -> Prop} (hc : CallsF P f args fr R) (hR : ∀ res B',R res B' -> ∃ X,Q X /\ frz B' X res) :
 CallsF P f args fr fun res B=>Q res /\ B = [] := by
 obtain ⟨hfn,hc⟩ := hc
 refine ⟨hfn,fun w Im vs hsz hargs him=>?_⟩
 refine (hc w Im vs hsz hargs him).mono fun e w' ⟨v,res,B',ρ',Im',he,hRR,hav,henv,hext⟩=>?_
 obtain ⟨X,hQ,hF⟩ := hR _ _ hRR
 let Pin : Nat -> Prop := fun b=>∃ i r,B'[i]? ≠ none /\ ρ' i = some r /\ r.has b
 let Im2 : Nat -> Nat -> Prop := fun b o=>Im' b o \/ Pin b
 have hrow : ∀ i κ l,(∃ T sh,B'[i]? = some (.row T κ l sh)) \/ (∃ T,B'[i]? = some (.tree T κ l)) -> ∀ u,AVR ρ' w'.heap Im' (.row i) u -> RepD w'.heap Im2 (.seq κ l) u := by
  intro i κ l hb u hu
  have fin : ∀ (r : RI) (cs : Array Value) (T : Nat),B'[i]? ≠ none -> ρ' i = some r -> w'.heap[r.b]? = some (.cells cs T (0,0)) -> r.len = l.length -> r.len <= r.cap -> r.cap <= maxLen ->
   (∀ k j,k < l.length -> j < κ.sz -> ∃ c : Value,cs[k * κ.sz + j]? = some c /\ RepD w'.heap Im2 (t6 κ l k j) c) -> RepD w'.heap Im2 (.seq κ l) (.slice (some ⟨r.b,0,none⟩) r.len r.cap) := by
   intro r cs T hi hr h4 h1 h2 h3 h6
   have hcell' : ∀ k j,k < l.length -> j < κ.sz -> hcell w'.heap r.b (0 + k * κ.sz + j) = some (cs.getD (k * κ.sz + j) undef) := fun k j hk hj=>by
    obtain ⟨c,hcc,_⟩ := h6 k j hk hj
    simp [hcell,h4,hcc,Array.getD_eq_getD_getElem?]
   have hlen : l.length <= r.cap := by omega
   rw [h1]
   refine .seq κ l r.b 0 r.cap (fun k j=>cs.getD (k * κ.sz + j) undef) hlen h3 (fun k j hk hj => .inr ⟨i,r,hi,hr,.inl rfl⟩) hcell' (fun k j hk hj=>?_)
   obtain ⟨c,hcc,hcr⟩ := h6 k j hk hj
   simp only [Array.getD_eq_getD_getElem?,hcc,Option.getD_some]
   exact hcr
  rcases hb with ⟨T,sh,hb⟩|⟨T,hb⟩
  . have hB := henv.bl i _ hb
    cases hu with
    | rowN i hi=>simp only [BlkR,hi] at hB;exact .empty κ l hB _ _
    | row i r hi =>
     simp only [BlkR,hi] at hB
     obtain ⟨h1,h2,h3,cs,T0,h4,h5,h6⟩ := hB
     refine fin r cs _ (by simp [hb]) hi h4 h1 h2 h3 fun k j hk hj=>?_
     obtain ⟨c,hcc,hcr⟩ := h6 k j hk hj
     exact ⟨c,hcc,hcr.mono (fun _ _ _=>rfl) (fun _ _ => .inl)⟩
  . have hB := henv.bl i _ hb
    cases hu with
    | rowN i hi=>simp only [BlkR,hi] at hB;exact .empty κ l hB _ _
    | row i r hi =>
     simp only [BlkR,hi] at hB
     obtain ⟨h1,h2,h3,cs,Fk,T0,h4,h5,hFF,_,h6⟩ := hB
     refine fin r cs _ (by simp [hb]) hi h4 h1 h2 h3 fun k j hk hj=>?_
     obtain ⟨c,hcc,hcr⟩ := h6 k j hk hj
     exact ⟨c,hcc,hcr.melt fun x o hx => .inr ⟨i,r,by simp [hb],hi,.inr (hFF k j x hk hj hx).1⟩⟩
 have hX := frz_R (ρ' := fun _=>none) hF hav hrow (fun _ _ => .inl)
 have hnew : ∀ {b},Pin b -> w.heap.size <= b := fun {b} ⟨i,r,hb,hi,hx⟩=>(hext.own i r b hb hi hx).elim (fun h=>h.elim) id
 have hlt : ∀ {b},Pin b -> b < w'.heap.size := fun {b} ⟨i,r,hb,hi,hx⟩=>henv.lt hb hi hx
 refine ⟨v,X,[],fun _=>none,Im2,he,⟨hQ,rfl⟩,hX,⟨fun i b hi=>(by simp at hi),fun i j r s x hi=>absurd rfl hi,fun i r hi=>absurd rfl hi,fun i r x hi=>absurd rfl hi,fun i r x o hi=>absurd rfl hi,fun b o h=>h.elim (henv.imlt b o) hlt,fun i b r o hi=>(by simp at hi)⟩,
  ⟨fun i r x hi=>absurd rfl hi,fun b o h => .inl (hext.im0 b o h),fun b o h=>h.elim (hext.imNew b o) fun h => .inr (.inr (hnew h)),hext.keep,hext.frame,hext.grow,hext.os,hext.tape,hext.output,fun _ _ h=>by cases h⟩⟩
theorem AVR.noid1 {h : Array Obj} {Im : Nat -> Nat -> Prop} {ρ ρ' : Rho} {i : Nat} {a : AV} {v : Value} (hρ : ∀ j,j ≠ i -> ρ' j = ρ j) (ha : a.kill i = a) (hr : AVR ρ h Im a v) : AVR ρ' h Im a v := by
 have := hr.kill hρ
 rwa [ha] at this
theorem CallsG.nilm {P : Program} {f : FuncId} {args : List AV} {d : Dat} {R : AV -> List Blk -> Prop} (h : CallsG P f args [.box [.dat d,.mp 1],.mp [] true] 1 R) (ha : args.map (AV.kill 1) = args) :
 CallsG P f args [.box [.dat d,.nilm]] 1 R := by
 refine ⟨h.1,fun w Im ρ vs h1 h2 hE h4=>?_⟩
 have hρ : ∀ j,j ≠ 1 -> o8 ρ 1 none j = ρ j := fun j hj=>bD _ hj
 have h1n : o8 ρ 1 none 1 = none := updR_same _ _ _
 have hargs : ∀ j a,args[j]? = some a -> AVR (o8 ρ 1 none) w.heap Im a (vs.getD j undef) := fun j a hj=>by
  refine AVR.noid1 hρ ?_ (h2 j a hj)
  have := congrArg (fun l=>l[j]?) ha
  simp only [List.getElem?_map,hj,Option.map_some] at this
  exact Option.some.inj this
 have hb0 := hE.bl 0 _ rfl
 obtain ⟨r,cs,T,hr,hh,hsz,hcs⟩ := hb0
 have hr' : o8 ρ 1 none 0 = some r := by rw [hρ 0 (by decide)];exact hr
 have i0 : ∀ {i : Nat} {s : RI},o8 ρ 1 none i = some s -> (fun j=>([.box [.dat d,.mp 1],.mp [] true] : List Blk)[j]?) i ≠ none -> i = 0 /\ s = r := fun {i s} hs hi=>by
  match i,hs,hi with
  | 0,hs,_=>rw [hr'] at hs;exact ⟨rfl,(Option.some.inj hs).symm⟩
  | 1,hs,_=>rw [h1n] at hs;cases hs
  | i + 2,_,hi=>exact absurd rfl hi
 have nz : (fun j=>([.box [.dat d,.nilm]] : List Blk)[j]?) 0 ≠ none := by simp
 have hE' : Env (fun j=>([.box [.dat d,.mp 1],.mp [] true] : List Blk)[j]?) (o8 ρ 1 none) Im w.heap := by
  refine ⟨fun i b hi=>?_,fun i j s t x hi hj hs ht hx hy=>(i0 hs hi).1.trans (i0 ht hj).1.symm,fun i s hi hs=>?_,fun i s x hi hs hx=>?_,fun i s x o hi hs hx=>?_,hE.imlt,fun i b s o hi hs=>?_⟩
  . match i,hi with
    | 0,hi =>
     cases hi
     refine ⟨r,cs,T,hr',hh,⟨hsz.len,fun h=>by simp [mB] at h⟩,fun j a hj=>?_⟩
     match j,hj with
     | 0,hj =>
      cases hj
      obtain ⟨c,hc1,hc2⟩ := hcs 0 _ rfl
      exact ⟨c,hc1,AVR.noid1 hρ rfl hc2⟩
     | 1,hj =>
      cases hj
      obtain ⟨c,hc1,hc2⟩ := hcs 1 _ rfl
      cases hc2
      exact ⟨_,hc1,.mpN 1 h1n⟩
    | 1,hi =>
     cases hi
     simp only [BlkR,h1n]
     exact ⟨trivial,trivial⟩
    | i + 2,hi=>simp at hi
  . obtain ⟨rfl,rfl⟩ := i0 hs hi
    exact hE.fpNe 0 _ nz hr
  . obtain ⟨rfl,rfl⟩ := i0 hs hi
    exact hE.fpLt 0 _ x nz hr hx
  . obtain ⟨rfl,rfl⟩ := i0 hs hi
    exact hE.fpIm 0 _ x o nz hr hx
  . obtain ⟨rfl,rfl⟩ := i0 hs (fun e=>by have e2 := hi.symm.trans e;cases e2)
    cases hi
    exact hE.imOwn 0 (.box [.dat d,.nilm]) _ o rfl hr
 have hG : ∀ x,(GP.of 2 (o8 ρ 1 none)).g x -> (GP.of 1 ρ).g x := fun x ⟨j,s,hj,hs,hx⟩=>by
  match j,hs with
  | 0,hs=>rw [hr'] at hs;cases hs;exact ⟨0,r,by decide,hr,hx⟩
  | 1,hs=>rw [h1n] at hs;cases hs
  | j + 2,_=>omega
 refine (h.2 w Im (o8 ρ 1 none) vs h1 hargs hE' h4).mono fun e w' he=>?_
 obtain ⟨v,res,B',ρ',Im',he,hRR,hv,hEnv,hpin,hX⟩ := he
 refine ⟨v,res,B',ρ',Im',he,hRR,hv,hEnv,fun j hj=>⟨(hpin j hj).1, ?_⟩, ?_⟩
 . obtain rfl : j = 0 := by omega
   exact ((hpin 0 hj).2).trans (hρ 0 (by decide))
 . exact ⟨fun i s x hi hs hx=>(hX.own i s x hi hs hx).imp (hG x) id,hX.im0,fun b o hI=>(hX.imNew b o hI).imp id (fun q=>q.imp (hG b) id),hX.keep,fun b hb hn=>hX.frame b hb (fun q=>hn (hG b q)),hX.grow,hX.os,hX.tape,hX.output,fun i p hp=>by cases hp⟩
end Vg
namespace Vg
open Go Go.Proofs Go.Shelf Go.RowKit
theorem compV {P : Program} {q : Ren} {f : FuncId} (L : Lays.n106 P q) (hq : q.f 106 = f) (hf : ∃ fn,P.funcs[f]? = some fn /\ (fn.name == "runtime.NumGoroutine") = false /\ fn.body.isNone = false) (a b : ByteArray) :
 CallsV P f [.dat (.str a),.dat (.str b)] (.dat (.i (Lib.compareBytes a.data.toList b.data.toList))) := by
 subst hq
 refine ⟨hf,fun w Im vs hs ha him=>?_⟩
 have h1 := ha 0 (.dat (.str a)) rfl
 have h2 := ha 1 (.dat (.str b)) rfl
 have hv : vs = #[.string a,.string b] := by
  have hs' : vs.size = 2 := hs
  apply Array.ext
  . simpa using hs'
  . intro i hi hi'
    have : i = 0 \/ i = 1 := by simp at hi';omega
    rcases this with rfl|rfl
    . cases h1 with
      | dat _ _ hd =>
       generalize hx : vs.getD 0 undef = x at hd
       cases hd
       simpa [Array.getD,hs'] using hx
    . cases h2 with
      | dat _ _ hd =>
       generalize hx : vs.getD 1 undef = x at hd
       cases hd
       simpa [Array.getD,hs'] using hx
 subst hv
 refine (Any.strings_Compare L a b w).mono ?_
 rintro e w' ⟨rfl,rfl⟩
 refine ⟨_,_,[],fun _=>none,fun _ _=>False,rfl,⟨rfl,rfl⟩,.dat _ _ (.int _ _),⟨fun i b hi=>(by simp at hi),fun i j r s x hi=>absurd rfl hi,fun i r hi=>absurd rfl hi,fun i r x hi=>absurd rfl hi,fun i r x o hi=>absurd rfl hi,fun b o h=>h.elim,fun i b r o hi=>(by simp at hi)⟩, ?_⟩
 exact ⟨fun i r x hi=>absurd rfl hi,fun b o h=>h.elim,fun b o h=>h.elim,fun b o h=>h.elim,fun b hb _=>rfl,Nat.le_refl _,rfl,rfl,rfl,fun i p hp=>(by cases hp)⟩
end Vg
namespace Vg
open Go Go.Sort Go.Proofs Go.Shelf
def vB (v : V.Val) : List Value := [.string v.name,.int .i64 v.w,.int .i64 v.n]
instance : Inhabited V.Val := ⟨K.vals.dflt⟩
theorem qnl {h : Array Obj} {Im : Nat -> Nat -> Prop} {l : List V.Val} {cs : Array Value}
 (hcs : ∀ k j,k < l.length -> j < K.sz .vals -> ∃ c : Value,cs[k * K.sz .vals + j]? = some c /\ RepD h Im (t6 .vals l k j) c) (t : Nat) (ht : t < l.length * 3) :
 cs[t]? = some ((flatK vB 3 l.toArray)[t]!) := by
 rw [get_flatK _ _ _ t (by simpa using ht)]
 have h1 : t / 3 < l.length := by omega
 have h2 : t % 3 < 3 := Nat.mod_lt _ (by decide)
 obtain ⟨c,hc,hr⟩ := hcs (t / 3) (t % 3) h1 h2
 have e : t / 3 * K.sz .vals + t % 3 = t := by show t / 3 * 3 + t % 3 = t;omega
 rw [e] at hc
 rw [hc]
 congr 1
 have e2 : (l.toArray)[t / 3]! = l[t / 3] := by simp [h1]
 rw [e2]
 have e3 : t6 .vals l (t / 3) (t % 3) = ((K.vals.enc l[t / 3]).getD (t % 3) (.bool false)) := by
  simp [t6,List.getElem?_eq_getElem h1]
 rw [e3] at hr
 generalize t % 3 = u at h2 hr ⊢
 have : u = 0 \/ u = 1 \/ u = 2 := by omega
 rcases this with rfl|rfl|rfl <;> (simp only [K.enc,List.getD_cons_zero,List.getD_cons_succ] at hr;cases hr;rfl)
theorem qh3 {h : Array Obj} {Im : Nat -> Nat -> Prop} {l : List V.Val} {cs : Array Value} (hc : ∀ t,t < l.length * 3 -> cs[t]? = some ((flatK vB 3 l.toArray)[t]!)) :
 ∀ k j,k < l.length -> j < K.sz .vals -> ∃ c : Value,cs[k * K.sz .vals + j]? = some c /\ RepD h Im (t6 .vals l k j) c := by
 intro k j hk hj
 have hj' : j < 3 := hj
 have ht : k * 3 + j < l.length * 3 := by omega
 refine ⟨_,hc (k * 3 + j) ht, ?_⟩
 rw [get_flatK _ _ _ _ (by simpa using ht)]
 have e1 : (k * 3 + j) / 3 = k := by omega
 have e2 : (k * 3 + j) % 3 = j := by omega
 have e3 : (l.toArray)[k]! = l[k] := by simp [hk]
 have e4 : t6 .vals l k j = ((K.vals.enc l[k]).getD j (.bool false)) := by simp [t6,List.getElem?_eq_getElem hk]
 rw [e1,e2,e3,e4]
 have : j = 0 \/ j = 1 \/ j = 2 := by omega
 rcases this with rfl|rfl|rfl
 . exact .str _
 . exact .int .i64 _
 . exact .int .i64 _
theorem qm2 {w : World} {g : Nat} {cur F : Array Value} {e : TypeId} (hb : w.heap[g]? = some (.cells cur e (0,0))) (ht : ∀ t,t < F.size -> cur[t]? = some (F[t]!)) : Go.Sort.Holds (id : Value -> Value) w g 0 F := by
 intro j hj
 refine ⟨?_,by simp [World.frozen?,hb]⟩
 simp only [World.cell?,hb,Nat.zero_add]
 simp only [Option.isSome_none,Bool.false_eq_true,if_false]
 rw [ht j hj];rfl
theorem qm3 {w : World} {g n : Nat} {os : Array Obj} {cur : Array Value} {e : TypeId} {fr : Nat × Nat} (F : Array Value) (hb : w.heap[g]? = some (.cells cur e fr)) :
 (grow (putRow id (Sort.ahead w n) g 0 F) os).heap[g]? = some (.cells (putCells id 0 F cur) e fr) := by
 have hg : g < w.heap.size := (Array.getElem?_eq_some_iff.1 hb).1
 rw [heap_grow_old _ _ (by simpa using hg)]
 simp [putRow,mapBlock,Sort.ahead,Array.getElem?_modify,hb,onCells]
theorem qep {w : World} {g n : Nat} {os : Array Obj} (F : Array Value) : w.grownBy (grow (putRow id (Sort.ahead w n) g 0 F) os) (some g) := by
 refine ⟨rfl,rfl,rfl,by simp,fun k hk hne=>?_⟩
 rw [heap_grow_old _ _ (by simpa using hk)]
 have : g ≠ k := fun e=>hne (by rw [e])
 simp [putRow,mapBlock,Sort.ahead,Array.getElem?_modify,this]
theorem put_get {cur F : Array Value} (h : F.size <= cur.size) (t : Nat) (ht : t < F.size) : (putCells id 0 F cur)[t]? = some (F[t]!) := by
 have : t < cur.size := by omega
 simp [putCells,ht,this]
theorem qkm {w w' : World} {Im : Nat -> Nat -> Prop} {ρ : Rho} {T : Nat} {l l' : List V.Val} {r : RI} {cs : Array Value} {T0 : TypeId}
 (E : Env (fun j=>[Blk.row T .vals l false][j]?) ρ Im w.heap) (hr : ρ 0 = some r) (hl : l'.length = l.length)
 (hh : w'.heap[r.b]? = some (.cells cs T0 (0,0))) (hsz : r.cap * 3 <= cs.size) (ht : ∀ t,t < l'.length * 3 -> cs[t]? = some ((flatK vB 3 l'.toArray)[t]!))
 (hf : ∀ b,b < w.heap.size -> b ≠ r.b -> w'.heap[b]? = w.heap[b]?) (hg : w.heap.size <= w'.heap.size) (ho : w'.os = w.os) (htp : w'.tape = w.tape) (hout : w'.output = w.output) :
 Env (fun j=>[Blk.row T .vals l' false][j]?) ρ Im w'.heap /\ Ext w (.of 1 ρ) Im (fun j=>[Blk.row T .vals l' false][j]?) ρ Im w' := by
 have z : ∀ {i : Nat} {b : Blk},(fun j=>[Blk.row T .vals l' false][j]?) i = some b -> i = 0 /\ b = Blk.row T .vals l' false := fun {i b} hi=>by
  cases i with
  | zero=>cases hi;exact ⟨rfl,rfl⟩
  | succ i=>cases hi
 have z' : ∀ {i : Nat},(fun j=>[Blk.row T .vals l' false][j]?) i ≠ none -> i = 0 := fun {i} hi=>by
  cases i with
  | zero=>rfl
  | succ i=>exact absurd rfl hi
 have n0 : (fun j=>[Blk.row T .vals l false][j]?) 0 ≠ none := by simp
 have hb : r.b < w.heap.size := by
  have h0 := E.bl 0 _ rfl
  simp only [BlkR,hr] at h0
  obtain ⟨_,_,_,cs0,T1,h1,_⟩ := h0
  exact (Array.getElem?_eq_some_iff.1 h1).1
 have him : ∀ o,¬ Im r.b o := fun o hI=>by
  have := (E.imOwn 0 _ r o rfl hr).1 hI
  simp [Blk.pinned] at this
 have h0 := E.bl 0 _ rfl
 simp only [BlkR,hr] at h0
 obtain ⟨a1,a2,a3,_⟩ := h0
 refine ⟨⟨fun i b hi=>?_,fun i j r1 r2 x hi hj _ _ _ _=>(z' hi).trans (z' hj).symm,fun i r1 hi h1=>?_,fun i r1 x hi h1 hx=>?_,fun i r1 x o hi h1 hx=>?_,fun b o hI=>Nat.lt_of_lt_of_le (E.imlt b o hI) hg,fun i b r1 o hi h1=>?_⟩,
  ⟨fun i r1 x hi h1 hx=>?_,fun _ _ h=>h,fun b o h => .inl h,fun b o hI=>?_,fun b hb hG=>?_,hg,ho,htp,hout,fun i p hp=>by cases hp⟩⟩
 . obtain ⟨rfl,rfl⟩ := z hi
   simp only [BlkR,hr]
   refine ⟨by omega,by omega,by omega,cs,T0,hh,hsz,qh3 ht⟩
 . obtain rfl := z' hi
   obtain rfl : r1 = r := Option.some.inj (h1.symm.trans hr)
   exact E.fpNe 0 r1 n0 hr
 . obtain rfl := z' hi
   obtain rfl : r1 = r := Option.some.inj (h1.symm.trans hr)
   exact Nat.lt_of_lt_of_le (E.fpLt 0 r1 x n0 hr hx) hg
 . obtain rfl := z' hi
   obtain rfl : r1 = r := Option.some.inj (h1.symm.trans hr)
   exact E.fpIm 0 r1 x o n0 hr hx
 . obtain ⟨rfl,rfl⟩ := z hi
   obtain rfl : r1 = r := Option.some.inj (h1.symm.trans hr)
   exact E.imOwn 0 (.row T .vals l false) r1 o rfl hr
 . obtain rfl := z' hi
   obtain rfl : r1 = r := Option.some.inj (h1.symm.trans hr)
   exact .inl ⟨0,r1,by omega,hr,hx⟩
 . have hne : b ≠ r.b := fun e=>him o (e ▸ hI)
   exact dE (hf b (E.imlt b o hI) hne) o
 . exact hf b hb fun e=>hG ⟨0,r,by omega,hr,.inl e⟩
theorem no_rowV {w : World} {Im : Nat -> Nat -> Prop} {ρ : Rho} {T : Nat} {l : List V.Val}
 (_E : Env (fun j=>[Blk.row T .vals l false][j]?) ρ Im w.heap) :
 Ext w (.of 1 ρ) Im (fun j=>[Blk.row T .vals l false][j]?) ρ Im w := by
 refine ⟨fun i r1 x hi h1 hx=>?_,fun _ _ h=>h,fun b o h => .inl h,fun b o hI=>rfl,fun b hb hG=>rfl,Nat.le_refl _,rfl,rfl,rfl,fun i p hp=>by cases hp⟩
 cases i with
 | zero=>exact .inl ⟨0,r1,by omega,h1,hx⟩
 | succ i=>exact absurd rfl hi
theorem vs_two {vs : Array Value} {v u : Value} (h : vs.size = 2) (e : vs.getD 0 undef = v) (e2 : vs.getD 1 undef = u) : vs = #[v,u] := by
 apply Array.ext (by simpa using h)
 intro i h1 h2
 have : i = 0 \/ i = 1 := by simp at h2;omega
 rcases this with rfl|rfl
 . simp at e ⊢;rw [<- e];simp [h]
 . simp at e2 ⊢;rw [<- e2];simp [h]
theorem perm_of {l : List V.Val} {d' : Array V.Val} (h : PermIn 0 l.toArray.size l.toArray d') : d'.toList.Perm l := by
 obtain ⟨h1,_,h3⟩ := h
 have e1 : d'.extract 0 l.toArray.size = d' := by rw [<- h1];simp
 have e2 : l.toArray.extract 0 l.toArray.size = l.toArray := by simp
 rw [e1,e2] at h3
 simpa using h3
theorem sortFG {P : Program} {q : Ren} {f g : FuncId} {T : Nat} {l : List V.Val} (L : SlLaysF0.n6 P q) (hq : q.f 6 = f)
 (hf : ∃ fn,P.funcs[f]? = some fn /\ (fn.name == "runtime.NumGoroutine") = false /\ fn.body.isNone = false) (hl : l.length < 4611686018427387904)
 (aE : ∀ w,(isAgg (q.t 24)).run P w = .ok true w) (zE : ∀ w,(Go.sizeOf (q.t 24)).run P w = .ok 3 w) (cf : V.Val -> V.Val -> Int) (hO : SWO (ltOf cf))
 (eg : ∀ args w,(callFunc g args).run P w = .ok (.enter g args) w)
 (hc : ∀ x y W,Calls P g #[.agg (vB x).toArray,.agg (vB y).toArray] W fun e w'=>e = .returned (.int .i64 (cf x y)) /\ ∃ n os',w' = grow (W.drewN n) os') :
 CallsG P f [.row 0,.fn g []] [.row T .vals l false] 1 (fun res B=>∃ l',res = .tup [] /\ B = [.row T .vals l' false] /\ l'.Perm l) := by
 subst hq
 refine ⟨hf,fun w Im ρ vs hs ha E _=>?_⟩
 have h0 := ha 0 (.row 0) rfl
 have h1 := ha 1 (.fn g []) rfl
 have hB := E.bl 0 _ rfl
 generalize hv : vs.getD 0 undef = v at h0
 generalize hu : vs.getD 1 undef = u at h1
 obtain rfl := vs_two hs hv hu
 have hu1 : u = .func (.func g) #[] #[] := by
  cases h1 with
  | fn _ _ cs cf hl hcf hr =>
   have : cs = #[] := Array.eq_empty_of_size_eq_zero hl
   rw [this]
 subst hu1
 cases h0 with
 | row _ r hi =>
  simp only [BlkR,hi] at hB
  obtain ⟨a1,a2,a3,cs,T0,hh,hsz,hcs⟩ := hB
  have hsz' : r.cap * 3 <= cs.size := hsz
  have hfl := qnl hcs
  have hH : HoldsK vB 3 w r.b 0 l.toArray := qm2 hh (fun t ht=>hfl t (by simpa using ht))
  have hcm : CmpLays P g #[] vB 3 cf r.b 0 l.toArray.size w := fun _ _ _ _ x y=>hc x y _
  have key := AnyQ.slices_SortFunc L 3 aE zE vB (fun _=>rfl) (fun x v hv=>by simp [vB] at hv;rcases hv with rfl|rfl|rfl <;> rfl) cf hO g #[] r.b 0 r.cap l.toArray w eg hcm hH (Array.getElem?_eq_some_iff.1 hh).1 (by simpa using hl)
  rw [a1]
  have es : l.toArray.size = l.length := by simp
  rw [es] at key
  refine key.mono fun e w' he=>?_
  obtain ⟨rfl,d',n,os,hp,_,rfl⟩ := he
  rw [<- es] at hp
  have hpm := perm_of hp
  have hlen : d'.toList.length = l.length := hpm.length_eq
  have hds : d'.size = l.length := by rw [<- hlen];simp
  have hfs : (flatK vB 3 d').size = l.length * 3 := by rw [size_flatK,hds]
  have hx := qkm (w' := sortWorldK vB 3 w r.b 0 n d' os) (l' := d'.toList) E hi hlen (qm3 (n := n) (os := os) (flatK vB 3 d') hh) (by simpa [putCells] using hsz')
   (fun t ht=>by rw [put_get (by rw [hfs];omega) t (by rw [hfs];omega)])
   (fun b hb hne=>(qep (w := w) (g := r.b) (n := n) (os := os) (flatK vB 3 d')).block b hb fun e=>hne (Option.some.inj e))
   (qep (w := w) (g := r.b) (n := n) (os := os) (flatK vB 3 d')).size rfl rfl rfl
  exact ⟨_,.tup [],_,ρ,Im,rfl,⟨_,rfl,rfl,hpm⟩,.tup [] #[] (fun _=>undef) rfl (by simp) (by simp),hx.1,fun j hj=>⟨by simpa using hj,rfl⟩,hx.2⟩
 | rowN _ hi =>
  simp only [BlkR,hi] at hB
  obtain rfl : l = [] := List.eq_nil_of_length_eq_zero hB
  refine (AnyF.slices_SortFunc_none L none 0 _ w).mono fun e w' he=>?_
  obtain ⟨rfl,rfl⟩ := he
  exact ⟨_,.tup [],_,ρ,Im,rfl,⟨[],rfl,rfl,.nil⟩,.tup [] #[] (fun _=>undef) rfl (by simp) (by simp),E,fun j hj=>⟨by simpa using hj,rfl⟩,no_rowV E⟩
end Vg
