/- Terms in the laws: sizes, copies, comparisons. Condition: terms are no larger than the law lets through. -/
import Derived.Test.YtcdepophgnlphaaDoorPoolL
import Derived.Test.YtcdepophgnlphaaDoorBase
import Derived.Test.YtcdepophgnlphaaDoorTermI
namespace Vg
open Go Go.Proofs
/-! ### sizes -/
theorem sz_el {l : List V.Term} {k m : Nat} (h : (k : Int) < l.length) (hm : d3 l < m) : sizeT ⟨(l.getD (k : Int).toNat K.terms.dflt).op, (l.getD (k : Int).toNat K.terms.dflt).w, (l.getD (k : Int).toNat K.terms.dflt).n, (l.getD (k : Int).toNat K.terms.dflt).name, (l.getD (k : Int).toNat K.terms.dflt).kids⟩ < m := by
  rw [V.Term.eta]
  have : sizeT (kAt l k) ≤ d3 l := xD omG
  exact Nat.lt_of_le_of_lt this hm
set_option maxRecDepth 100000
set_option maxHeartbeats 40000000
/-! ### comparisons -/
structure IHeS (m : Nat) : Prop where
  call : ∀ (a b : List V.Term), d3 a < m → CallsV Tryd.prog 17 [.dat (.seq .terms a), .dat (.seq .terms b)] (.dat (.bool (decide (a = b))))
theorem ih_eS {m : Nat} (ih : IHeS m) {a b : List V.Term} (hs : d3 a < m) : CallsV Tryd.prog 17 [.dat (.seq .terms a), .dat (.seq .terms b)] (.dat (.bool (decide (a = b)))) := ih.call a b hs
theorem l_eT0 (m : Nat) (op w n : Int) (nm : ByteArray) (ks : List V.Term) (op' w' n' : Int) (nm' : ByteArray) (ks' : List V.Term) (ih : IHeS m) (hm : d3 ks < m) : CallsV Tryd.prog 6 [.agg [.dat (.i op), .dat (.i w), .dat (.i n), .dat (.str nm), .dat (.seq .terms ks)], .agg [.dat (.i op'), .dat (.i w'), .dat (.i n'), .dat (.str nm'), .dat (.seq .terms ks')]] (.dat (.bool (decide ((⟨op, w, n, nm, ks⟩ : V.Term) = ⟨op', w', n', nm', ks'⟩)))) := by
  refine oV Tryd.func6 ⟨?_⟩
  repeat' (first | ((with_reducible refine fun (K1 : KT) hK => ?_); refine g6 ⟨?_⟩) | ((with_reducible show K1 _ _); subst hK; conv => whnf) | (with_reducible exact rfl) | refine f4 ⟨?_⟩ | ((with_reducible refine SplS.mk (fun h => ?_) (fun h => ?_)) <;> first | exact o6 | (subst h; conv => whnf) | (conv => whnf)) | ((with_reducible first | refine p3 (g := 17) ?_ | show Exists _); refine ⟨_, ih_eS (ih := by assumption) (hs := ?_) .., rfl, ?_⟩; rotate_right; conv => whnf) | (intro h; conv => whnf))
  all_goals repeat clear hK K1
  all_goals first | (with_reducible assumption) | (refine congrArg Dat.bool ?_; first | exact decide_eq_false (fun e => absurd (congrArg V.Term.op e) asmR) | exact decide_eq_false (fun e => absurd (congrArg V.Term.w e) asmR) | exact decide_eq_false (fun e => absurd (congrArg V.Term.n e) asmR) | exact decide_eq_false (fun e => str_ne asmR (congrArg V.Term.name e)) | exact decide_eq_false (fun e => of_decide_eq_false asmR (congrArg V.Term.kids e)) | exact decide_eq_false (fun e => absurd (congrArg V.Term.kids e) asmR) | exact decide_eq_true (by rw [str_eq (show (nm.toList == nm'.toList) = true by with_reducible assumption), show ks = ks' from of_decide_eq_true h])) | skip
structure IHeT (m : Nat) : Prop where
  call : ∀ (op w n : Int) (nm : ByteArray) (ks : List V.Term) (op' w' n' : Int) (nm' : ByteArray) (ks' : List V.Term), sizeT ⟨op, w, n, nm, ks⟩ < m → CallsV Tryd.prog 6 [.agg [.dat (.i op), .dat (.i w), .dat (.i n), .dat (.str nm), .dat (.seq .terms ks)], .agg [.dat (.i op'), .dat (.i w'), .dat (.i n'), .dat (.str nm'), .dat (.seq .terms ks')]] (.dat (.bool (decide ((⟨op, w, n, nm, ks⟩ : V.Term) = ⟨op', w', n', nm', ks'⟩))))
theorem ih_eT {m : Nat} (ih : IHeT m) {op w n : Int} {nm : ByteArray} {ks : List V.Term} {op' w' n' : Int} {nm' : ByteArray} {ks' : List V.Term} (hs : sizeT ⟨op, w, n, nm, ks⟩ < m) : CallsV Tryd.prog 6 [.agg [.dat (.i op), .dat (.i w), .dat (.i n), .dat (.str nm), .dat (.seq .terms ks)], .agg [.dat (.i op'), .dat (.i w'), .dat (.i n'), .dat (.str nm'), .dat (.seq .terms ks')]] (.dat (.bool (decide ((⟨op, w, n, nm, ks⟩ : V.Term) = ⟨op', w', n', nm', ks'⟩)))) := ih.call op w n nm ks op' w' n' nm' ks' hs
theorem l_eS0 (m : Nat) (a b : List V.Term) (ih : IHeT m) (hm : d3 a < m) : CallsV Tryd.prog 17 [.dat (.seq .terms a), .dat (.seq .terms b)] (.dat (.bool (decide (a = b)))) := by
  refine oV Tryd.func17 ⟨?_⟩
  repeat' (first | ((with_reducible refine fun (K1 : KT) hK => ?_); refine g6 ⟨?_⟩) | ((with_reducible show K1 _ _); subst hK; conv => whnf) | (with_reducible exact rfl) | refine f4 ⟨?_⟩ | ((with_reducible refine SplS.mk (fun h => ?_) (fun h => ?_)) <;> first | exact o6 | (subst h; conv => whnf) | (conv => whnf)) | refine g5 ⟨?_⟩ ⟨?_⟩ | (refine Exists.intro ({k : Nat // a.take k = b.take k}) (Exists.intro (fun ⟨k, hk⟩ => x5 Tryd.f17.ntmps [(0, .dat (.seq .terms a)), (1, .dat (.seq .terms b)), (5, .dat (.i k))] []) (Exists.intro (fun ⟨k, hk⟩ => a.length - k) (Exists.intro ⟨0, rfl⟩ (And.intro (SubP.sub (σ := []) ⟨⟨rfl, rfl, rfl⟩, ⟨j0 ?_, j0 ?_, j0 ?_, trivial⟩, trivial⟩) (fun ⟨k, hk⟩ => ?_))))); rotate_right; conv => whnf) | (refine Exists.intro (⟨k + 1, ?_⟩ : {k : Nat // a.take k = b.take k}) (And.intro ?_ (SubP.sub (σ := []) ⟨⟨rfl, rfl, rfl⟩, ⟨j0 ?_, j0 ?_, j0 ?_, trivial⟩, trivial⟩))) | ((with_reducible show Exists _); refine Exists.intro _ (And.intro (ih_eT (ih := by assumption) (hs := ?_) ..) (And.intro rfl ?_)); rotate_right; conv => whnf) | (intro h; conv => whnf))
  all_goals repeat clear hK K1
  all_goals first | (with_reducible assumption) | exact sz_el asmR hm | ((with_reducible show (_ : Nat) < _); (dsimp only; omega)) | ((with_reducible show (_ : Int) < _); omega) | ((with_reducible show (_ : Int) ≤ _); omega) | exact congrArg (Dat.int .i64) (uD asmR asmR).symm | exact congrArg Dat.bool (decide_eq_false (fun e => absurd (congrArg (fun x : List V.Term => (x.length : Int)) e) asmR)) | exact congrArg Dat.bool (decide_eq_true (jY asmR omG hk)) | (simp only [V.Term.eta, Int.toNat_natCast] at *; first | exact cQ K.terms.dflt asmR omG hk (of_decide_eq_true asmR) | exact cQ K.terms.dflt asmR omG hk asmR | exact congrArg Dat.bool (decide_eq_false (lS (of_decide_eq_false asmR))) | exact congrArg Dat.bool (decide_eq_false (lS asmR))) | rfl | skip
theorem eT_of {m : Nat} (ih : IHeS m) : IHeT (m + 1) := ⟨fun op w n nm ks op' w' n' nm' ks' hs => l_eT0 m op w n nm ks op' w' n' nm' ks' ih (by rw [sizeT] at hs; omega)⟩
theorem iW : ∀ m, IHeS m
  | 0 => ⟨fun _ _ h => absurd h (Nat.not_lt_zero _)⟩
  | m + 1 => ⟨fun a b hs => l_eS0 (m + 1) a b (eT_of (iW m)) hs⟩
theorem qa0 (op w n : Int) (nm : ByteArray) (ks : List V.Term) (op' w' n' : Int) (nm' : ByteArray) (ks' : List V.Term) : CallsV Tryd.prog 6 [.agg [.dat (.i op), .dat (.i w), .dat (.i n), .dat (.str nm), .dat (.seq .terms ks)], .agg [.dat (.i op'), .dat (.i w'), .dat (.i n'), .dat (.str nm'), .dat (.seq .terms ks')]] (.dat (.bool (decide ((⟨op, w, n, nm, ks⟩ : V.Term) = ⟨op', w', n', nm', ks'⟩)))) := (eT_of (iW (sizeT ⟨op, w, n, nm, ks⟩))).call op w n nm ks op' w' n' nm' ks' (Nat.lt_succ_self _)
/-! ### the text of a mark -/
theorem u8_dg {m : Nat} (h : m < 10) : strOfNums [IntKind.u8.wrap (IntKind.i64.wrap (48 + (m : Int)))] = ⟨#[(48 + m).toUInt8]⟩ := by
  have : ∀ m : Nat, m < 10 → strOfNums [IntKind.u8.wrap (IntKind.i64.wrap (48 + (m : Int)))] = ⟨#[(48 + m).toUInt8]⟩ := by decide
  exact this m h
theorem qM : ∀ {f k : Nat} {s : ByteArray}, k < f → w9 f k s = w9 (k + 1) k s
  | 0, k, s, h => absurd h (Nat.not_lt_zero _)
  | f + 1, k, s, h => by
    rw [w9, w9]
    by_cases c : k = 0
    · rw [if_pos c, if_pos c]
    · rw [if_neg c, if_neg c, qM (f := f) omG, qM (f := k) omG]
structure TxI (k : Int) (q : Nat) (s : ByteArray) : Prop where
  e : w9 (q + 1) q s = w9 (k.toNat + 1) k.toNat ByteArray.empty
  s : s.size + q ≤ 2199023255552
theorem qby {a b : ByteArray} : (a ++ b).size = a.size + b.size := ByteArray.size_append
theorem tx_0 {k : Int} (h1 : k ≤ 2199023255552) : TxI k k.toNat ByteArray.empty := ⟨rfl, by show 0 + _ ≤ _; omega⟩
theorem tx_s {k : Int} {q : Nat} {s : ByteArray} (h : TxI k q s) (hq : (q : Int) > 0) : TxI k (q / 10) (⟨#[(48 + q % 10).toUInt8]⟩ ++ s) := by
  refine ⟨?_, ?_⟩
  · rw [← h.e, qap (f := q + 1) (k := q) omG omG, Nat.add_sub_cancel, qM (f := q) omG]
  · rw [qby]
    have := h.s
    have e : (ByteArray.mk #[(48 + q % 10).toUInt8]).size = 1 := rfl
    rw [e]; omega
theorem tx_n {k : Int} {q : Nat} {s : ByteArray} (h : TxI k q s) (hk : ¬ k ≤ 0) (hq : ¬ (q : Int) > 0) : s9 k = ⟨#[109]⟩ ++ s := by
  obtain rfl : q = 0 := by omega
  have e := h.e
  rw [mGo_end] at e
  unfold s9
  rw [if_neg hk, ← e]
theorem tx_d {q : Nat} : strOfNums [IntKind.u8.wrap (IntKind.i64.wrap (48 + (q : Int).tmod 10))] = ⟨#[(48 + q % 10).toUInt8]⟩ := by
  have e : (q : Int).tmod 10 = ((q % 10 : Nat) : Int) := by rw [Int.tmod_eq_emod_of_nonneg omG]; omega
  rw [e]
  exact u8_dg (Nat.mod_lt _ (by decide))
theorem tx_q {q : Nat} (h : q ≤ 2199023255552) : IntKind.i64.wrap ((q : Int).tdiv 10) = ((q / 10 : Nat) : Int) := by
  have e : (q : Int).tdiv 10 = ((q / 10 : Nat) : Int) := by rw [Int.tdiv_eq_ediv_of_nonneg omG]; omega
  rw [e, g4 omG omG]
theorem sT (k : Int) (h1 : k ≤ 2199023255552) : CallsV Tryd.prog 39 [.dat (.i k)] (.dat (.str (s9 k))) := by
  refine oV Tryd.func39 ⟨?_⟩
  repeat' (first | ((with_reducible refine fun (K1 : KT) hK => ?_); refine g6 ⟨?_⟩) | ((with_reducible show K1 _ _); subst hK; conv => whnf) | (with_reducible exact rfl) | refine f4 ⟨?_⟩ | ((with_reducible refine SplS.mk (fun h => ?_) (fun h => ?_)) <;> first | exact o6 | (subst h; conv => whnf) | (conv => whnf)) | refine g5 ⟨?_⟩ ⟨?_⟩ | (refine Exists.intro ({x : Nat × ByteArray // TxI k x.1 x.2}) (Exists.intro (fun ⟨⟨q, s⟩, hx⟩ => x5 Tryd.f39.ntmps [(0, .dat (.i (q : Int))), (3, .dat (.str s))] []) (Exists.intro (fun ⟨⟨q, s⟩, hx⟩ => q) (Exists.intro ⟨⟨k.toNat, ByteArray.empty⟩, ?_⟩ (And.intro (SubP.sub (σ := []) ⟨⟨rfl, rfl, rfl⟩, ⟨j0 ?_, j0 ?_, trivial⟩, trivial⟩) (fun ⟨⟨q, s⟩, hx⟩ => ?_))))); rotate_right; conv => whnf) | (refine Exists.intro (⟨⟨q / 10, ⟨#[(48 + q % 10).toUInt8]⟩ ++ s⟩, ?_⟩ : {x : Nat × ByteArray // TxI k x.1 x.2}) (And.intro ?_ (SubP.sub (σ := []) ⟨⟨rfl, rfl, rfl⟩, ⟨j0 ?_, j0 ?_, trivial⟩, trivial⟩))) | (intro h; conv => whnf))
  all_goals repeat clear hK K1
  all_goals first | exact congrArg Dat.str (by unfold s9; rw [if_pos asmR]) | exact tx_0 h1 | exact tx_s hx asmR | exact congrArg Dat.str (tx_n hx asmR asmR) | (refine congrArg Dat.str ?_; rw [tx_d]) | (refine congrArg Dat.i ?_; first | (rw [tx_q (by have := hx.s; dsimp only at this; omega)]; done) | omega) | exact absurd h (by decide) | ((with_reducible show _ + _ ≤ _); have := hx.s; have hm : maxLen = 9223372036854775807 := rfl; dsimp only at this; rw [hm]; first | (rw [tx_d]; show 1 + s.size ≤ _; omega) | (show 1 + s.size ≤ _; omega)) | ((with_reducible show (_ : Nat) < _); dsimp only; omega) | rfl | skip
/-! ### marks in terms -/
theorem vD {k : Int} (h0 : 0 ≤ k) (h1 : k ≤ 2199023255552) : IntKind.i64.wrap (k + 1) = k + 1 := g4 omG omG
theorem wk_2 {k : Int} (h0 : 0 ≤ k) (h1 : k ≤ 1099511627776) : IntKind.i64.wrap (IntKind.i64.wrap (k + 1) + 1) = k + 2 := by rw [vD h0 omG, vD omG omG]; omega
theorem wk_3 {k : Int} (h0 : 0 ≤ k) (h1 : k ≤ 1099511627776) : IntKind.i64.wrap (IntKind.i64.wrap (IntKind.i64.wrap (k + 1) + 1) + 1) = k + 3 := by rw [wk_2 h0 h1, vD omG omG]; omega
theorem wk_4 {k : Int} (h0 : 0 ≤ k) (h1 : k ≤ 1099511627776) : IntKind.i64.wrap (IntKind.i64.wrap (IntKind.i64.wrap (IntKind.i64.wrap (k + 1) + 1) + 1) + 1) = k + 4 := by rw [wk_3 h0 h1, vD omG omG]; omega
theorem bO (l : List V.Term) (k : Nat) : s1 (l.take k) ≤ s1 l := by
  have h := dO (l.take k) (l.drop k)
  rw [List.take_append_drop] at h
  omega
theorem zW {l : List V.Term} {i : Nat} (h : (i : Int) < l.length) : s1 (l.take i) + 4 + s1 (l.getD i K.terms.dflt).kids ≤ s1 l := by
  have h1 := eO h
  have h2 := bO l (i + 1)
  rw [fO] at h1
  omega
theorem hQ {l : List V.Term} {k m : Nat} (h : (k : Int) < l.length) (hm : d3 l ≤ m) : d3 (l.getD k K.terms.dflt).kids < m := by
  have h1 : sizeT (kAt l k) ≤ d3 l := xD omG
  have h2 : sizeT (kAt l k) = 1 + d3 (kAt l k).kids := by cases kAt l k; rw [sizeT]
  show d3 (kAt l k).kids < m
  omega
structure IHm (m : Nat) : Prop where
  call : ∀ (l : List V.Term) (k : Int), d3 l < m → 0 ≤ k → k + s1 l ≤ 1099511627776 → CallsG Tryd.prog 18 [.row 0, .dat (.i k)] [.tree 24 .terms l] 1 (fun res B => res = .dat (.i (k + (s1 l : Nat))) ∧ B = [.tree 24 .terms (x4 l k)])
theorem ih_m {m : Nat} (ih : IHm m) {l : List V.Term} {k : Int} (hs : d3 l < m) (h0 : 0 ≤ k) (h1 : k + s1 l ≤ 1099511627776) : CallsG Tryd.prog 18 [.row 0, .dat (.i k)] [.tree 24 .terms l] 1 (fun res B => res = .dat (.i (k + (s1 l : Nat))) ∧ B = [.tree 24 .terms (x4 l k)]) := ih.call l k hs h0 h1
theorem mkTo_5 {k k1 k2 k3 : Int} {l : List V.Term} {i : Nat} (h : (i : Int) < l.length) (hi : i ≤ l.length) (h1 : k1 = k + s1 (l.take i) + 1) (h2 : k2 = k + s1 (l.take i) + 2) (h3 : k3 = k + s1 (l.take i) + 3)
    {L1 L2 L3 L4 : List V.Term}
    (e4 : L4 = L3.set (i : Int).toNat ⟨(L3.getD (i : Int).toNat K.terms.dflt).op, (L3.getD (i : Int).toNat K.terms.dflt).w, (L3.getD (i : Int).toNat K.terms.dflt).n, s9 k3, (L3.getD (i : Int).toNat K.terms.dflt).kids⟩)
    (e3 : L3 = L2.set (i : Int).toNat ⟨(L2.getD (i : Int).toNat K.terms.dflt).op, (L2.getD (i : Int).toNat K.terms.dflt).w, k2, (L2.getD (i : Int).toNat K.terms.dflt).name, (L2.getD (i : Int).toNat K.terms.dflt).kids⟩)
    (e2 : L2 = L1.set (i : Int).toNat ⟨(L1.getD (i : Int).toNat K.terms.dflt).op, k1, (L1.getD (i : Int).toNat K.terms.dflt).n, (L1.getD (i : Int).toNat K.terms.dflt).name, (L1.getD (i : Int).toNat K.terms.dflt).kids⟩)
    (e1 : L1 = (y7 k l i).set (i : Int).toNat ⟨k + s1 (l.take i), ((y7 k l i).getD (i : Int).toNat K.terms.dflt).w, ((y7 k l i).getD (i : Int).toNat K.terms.dflt).n, ((y7 k l i).getD (i : Int).toNat K.terms.dflt).name, ((y7 k l i).getD (i : Int).toNat K.terms.dflt).kids⟩) :
    L4.getD (i : Int).toNat K.terms.dflt = ⟨k + s1 (l.take i), k + s1 (l.take i) + 1, k + s1 (l.take i) + 2, s9 (k + s1 (l.take i) + 3), (l.getD i K.terms.dflt).kids⟩ ∧ L4.length = l.length ∧ L3.length = l.length ∧ L2.length = l.length ∧ L1.length = l.length ∧
      ∀ x, L4.set i x = (y7 k l i).set i x := by
  have hlen := tG (k := k) hi
  have h' : i < (y7 k l i).length := by omega
  rw [Int.toNat_natCast] at e1 e2 e3 e4 ⊢
  subst h1 h2 h3
  rw [qag h] at e1
  subst e1
  rw [uI h', List.set_set] at e2; subst e2
  rw [uI h', List.set_set] at e3; subst e3
  rw [uI h', List.set_set] at e4; subst e4
  refine ⟨uI h', ?_, ?_, ?_, ?_, fun x => ?_⟩
  · rw [List.length_set, hlen]
  · rw [List.length_set, hlen]
  · rw [List.length_set, hlen]
  · rw [List.length_set, hlen]
  · rw [List.set_set]
theorem uS {k k4 : Int} {l L4 L5 : List V.Term} {i : Nat} (h : (i : Int) < l.length) (h4 : k4 = k + s1 (l.take i) + 4)
    (e : L4.getD (i : Int).toNat K.terms.dflt = ⟨k + s1 (l.take i), k + s1 (l.take i) + 1, k + s1 (l.take i) + 2, s9 (k + s1 (l.take i) + 3), (l.getD i K.terms.dflt).kids⟩) (es : ∀ x, L4.set i x = (y7 k l i).set i x)
    (e5 : L5 = L4.set (i : Int).toNat ⟨(L4.getD (i : Int).toNat K.terms.dflt).op, (L4.getD (i : Int).toNat K.terms.dflt).w, (L4.getD (i : Int).toNat K.terms.dflt).n, (L4.getD (i : Int).toNat K.terms.dflt).name, x4 (L4.getD (i : Int).toNat K.terms.dflt).kids k4⟩) :
    y7 k l (i + 1) = L5 ∧ k + (s1 (l.take (i + 1)) : Nat) = k4 + (s1 (L4.getD (i : Int).toNat K.terms.dflt).kids : Nat) := by
  rw [e] at e5 ⊢
  rw [Int.toNat_natCast] at e5
  subst h4
  refine ⟨?_, ?_⟩
  · rw [e5, es, ← qaf h, xS]
  · rw [eO h, fO]; push_cast; omega
theorem mk_lt {k : Int} {l : List V.Term} {i : Nat} (hi : i ≤ l.length) (h : (i : Int) < ((y7 k l i).length : Nat)) : (i : Int) < l.length := by rwa [tG hi] at h
theorem g_mS0 (m : Nat) (l : List V.Term) (k : Int) (ih : IHm m) (hm : d3 l ≤ m) (h0 : 0 ≤ k) (h1 : k + s1 l ≤ 1099511627776) : CallsG Tryd.prog 18 [.row 0, .dat (.i k)] [.tree 24 .terms l] 1 (fun res B => res = .dat (.i (k + (s1 l : Nat))) ∧ B = [.tree 24 .terms (x4 l k)]) := by
  refine oG Tryd.func18 ⟨?_⟩
  repeat' (first | ((with_reducible refine fun (K1 : KT) hK => ?_); refine g6 ⟨?_⟩) | ((with_reducible show K1 _ _); subst hK; conv => whnf) | (with_reducible exact rfl) | refine f4 ⟨?_⟩ | ((with_reducible refine SplS.mk (fun h => ?_) (fun h => ?_)) <;> first | exact o6 | (subst h; conv => whnf) | (conv => whnf)) | refine g5 ⟨?_⟩ ⟨?_⟩ | (refine Exists.intro ({i : Nat // i ≤ l.length}) (Exists.intro (fun ⟨i, hi⟩ => x5 Tryd.f18.ntmps [(0, .row 900000), (1, .dat (.i (k + (s1 (l.take i) : Nat)))), (5, .dat (.i i))] [(900000, .tree 24 .terms (y7 k l i))]) (Exists.intro (fun ⟨i, hi⟩ => l.length - i) (Exists.intro ⟨0, Nat.zero_le _⟩ (And.intro (SubP.sub (σ := [(900000, some 900000)]) ⟨⟨rfl, rfl, rfl⟩, ⟨rfl, j0 ?_, j0 ?_, trivial⟩, ⟨⟨rfl, ?_⟩, trivial⟩⟩) (fun ⟨i, hi⟩ => ?_))))); rotate_right; conv => whnf) | (refine Exists.intro (⟨i + 1, ?_⟩ : {i : Nat // i ≤ l.length}) (And.intro ?_ (SubP.sub (σ := [(900000, some 900000)]) ⟨⟨rfl, rfl, rfl⟩, ⟨rfl, j0 ?_, j0 ?_, trivial⟩, ⟨⟨rfl, ?_⟩, trivial⟩⟩))) | ((with_reducible first | refine p3 (g := 39) ?_ | show Exists _); refine ⟨_, sT (h1 := ?_) .., rfl, ?_⟩; rotate_right; conv => whnf) | ((with_reducible refine mcI (g := 18) ?_); refine ⟨_, ih_m (ih := by assumption) (hs := ?_) (h0 := ?_) (h1 := ?_) .., zV ?_⟩; rotate_right; conv => whnf) | (intro h; conv => whnf))
  all_goals repeat clear hK K1
  all_goals try (have hc := bO l i; have w1 := vD (k := k + s1 (l.take i)) omG omG; have w2 := wk_2 (k := k + s1 (l.take i)) omG omG; have w3 := wk_3 (k := k + s1 (l.take i)) omG omG; have w4 := wk_4 (k := k + s1 (l.take i)) omG omG)
  all_goals first | (with_reducible assumption) | ((with_reducible show (0 : Int) ≤ _); omega) | exact congrArg (Dat.int .i64) (uD asmR asmR).symm | exact hY (qah (by rw [tG hi] at h; exact h) hi) | (refine congrArg (fun x => AV.dat (Dat.i x)) ?_; rw [tG hi] at h; rw [List.take_of_length_le omG]) | (refine congrArg Dat.i ?_; rw [List.take_zero, s1]; omega) | (have hb := mk_lt hi asmR; first | omega | ((with_reducible show (_ : Nat) < _); (dsimp only; omega)) | ((with_reducible show (_ : Int) ≤ _); omega) | (have q := mkTo_5 hb hi w1 w2 w3 asmR asmR asmR asmR; have c4 := zW hb; first | exact sig_fin (uS hb w4 q.1 q.2.2.2.2.2 asmR).1 | exact congrArg Dat.i (uS hb w4 q.1 q.2.2.2.2.2 asmR).2 | (rw [q.1]; first | exact hQ hb hm | (dsimp only; omega))) | (subst_vars; simp only [List.length_set, tG hi]; omega)) | rfl | skip
theorem vS : ∀ {l : List V.Term} {k : Int} {i : Nat}, i < l.length → (x4 l k).getD i K.terms.dflt = mkT1 (l.getD i K.terms.dflt) (k + s1 (l.take i))
  | t :: ts, k, 0, _ => by
    rw [x4]
    show mkT1 t k = mkT1 t (k + s1 [])
    rw [s1]; congr 1; omega
  | t :: ts, k, i + 1, h => by
    rw [x4]
    show (x4 ts (k + cntT t)).getD i _ = mkT1 (ts.getD i _) (k + s1 (t :: ts.take i))
    rw [vS (by simpa using h), s1]; congr 1; push_cast; omega
theorem kM : ∀ (ks : List V.Term) (k j : Int), x4 (x4 ks k) j = x4 ks j ∧ s1 (x4 ks k) = s1 ks
  | [], k, j => by rw [x4, x4]; exact ⟨rfl, rfl⟩
  | ⟨op, w, n, nm, ks⟩ :: ts, k, j => by
    have h1 := kM ks (k + 4) (j + 4)
    have h2 : cntT ⟨k, k + 1, k + 2, s9 (k + 3), x4 ks (k + 4)⟩ = cntT ⟨op, w, n, nm, ks⟩ := by rw [cntT, cntT, h1.2]
    have h3 := kM ts (k + cntT ⟨op, w, n, nm, ks⟩) (j + cntT ⟨op, w, n, nm, ks⟩)
    have e : x4 (⟨op, w, n, nm, ks⟩ :: ts) k = ⟨k, k + 1, k + 2, s9 (k + 3), x4 ks (k + 4)⟩ :: x4 ts (k + cntT ⟨op, w, n, nm, ks⟩) := by rw [x4, mkT1]
    rw [e]
    refine ⟨?_, ?_⟩
    · rw [x4, h2, h3.1, mkT1, h1.1, x4, mkT1]
    · rw [s1, h2, h3.2, s1]
structure IHh (m : Nat) : Prop where
  call : ∀ (c : List V.Term) (k : Int), d3 c < m → x4 c k = c → 0 ≤ k → k + s1 c ≤ 1099511627776 → CallsV Tryd.prog 19 [.dat (.seq .terms c), .dat (.i k)] (.dat (.i (k + (s1 c : Nat))))
theorem ih_h {m : Nat} (ih : IHh m) {c : List V.Term} {k : Int} (hs : d3 c < m) (hc : x4 c k = c) (h0 : 0 ≤ k) (h1 : k + s1 c ≤ 1099511627776) : CallsV Tryd.prog 19 [.dat (.seq .terms c), .dat (.i k)] (.dat (.i (k + (s1 c : Nat)))) := ih.call c k hs hc h0 h1
theorem held_el {c : List V.Term} {k : Int} {i : Nat} (hc : x4 c k = c) (h : (i : Int) < c.length) : (c.getD (i : Int).toNat K.terms.dflt).op = k + s1 (c.take i) ∧ (c.getD (i : Int).toNat K.terms.dflt).w = k + s1 (c.take i) + 1 ∧ (c.getD (i : Int).toNat K.terms.dflt).n = k + s1 (c.take i) + 2 ∧
    (c.getD (i : Int).toNat K.terms.dflt).name = s9 (k + s1 (c.take i) + 3) ∧ x4 (c.getD (i : Int).toNat K.terms.dflt).kids (k + s1 (c.take i) + 4) = (c.getD (i : Int).toNat K.terms.dflt).kids := by
  have q := vS (l := c) (k := k) (i := i) omG
  rw [hc, xS] at q
  rw [Int.toNat_natCast]
  refine ⟨?_, ?_, ?_, ?_, ?_⟩
  · conv => lhs; rw [q]
  · conv => lhs; rw [q]
  · conv => lhs; rw [q]
  · conv => lhs; rw [q]
  · exact (congrArg V.Term.kids q).symm
theorem l_hS0 (m : Nat) (c : List V.Term) (k : Int) (ih : IHh m) (hm : d3 c ≤ m) (hc : x4 c k = c) (h0 : 0 ≤ k) (h1 : k + s1 c ≤ 1099511627776) : CallsV Tryd.prog 19 [.dat (.seq .terms c), .dat (.i k)] (.dat (.i (k + (s1 c : Nat)))) := by
  refine oV Tryd.func19 ⟨?_⟩
  repeat' (first | ((with_reducible refine fun (K1 : KT) hK => ?_); refine g6 ⟨?_⟩) | ((with_reducible show K1 _ _); subst hK; conv => whnf) | (with_reducible exact rfl) | refine f4 ⟨?_⟩ | ((with_reducible refine SplS.mk (fun h => ?_) (fun h => ?_)) <;> first | exact o6 | (subst h; conv => whnf) | (conv => whnf)) | refine g5 ⟨?_⟩ ⟨?_⟩ | (refine Exists.intro ({i : Nat // i ≤ c.length}) (Exists.intro (fun ⟨i, hi⟩ => x5 Tryd.f19.ntmps [(0, .dat (.seq .terms c)), (1, .dat (.i (k + (s1 (c.take i) : Nat)))), (5, .dat (.i i))] []) (Exists.intro (fun ⟨i, hi⟩ => c.length - i) (Exists.intro ⟨0, Nat.zero_le _⟩ (And.intro (SubP.sub (σ := []) ⟨⟨rfl, rfl, rfl⟩, ⟨j0 ?_, j0 ?_, j0 ?_, trivial⟩, trivial⟩) (fun ⟨i, hi⟩ => ?_))))); rotate_right; conv => whnf) | (refine Exists.intro (⟨i + 1, ?_⟩ : {i : Nat // i ≤ c.length}) (And.intro ?_ (SubP.sub (σ := []) ⟨⟨rfl, rfl, rfl⟩, ⟨j0 ?_, j0 ?_, j0 ?_, trivial⟩, trivial⟩))) | ((with_reducible first | refine p3 (g := 39) ?_ | show Exists _); refine ⟨_, sT (h1 := ?_) .., rfl, ?_⟩; rotate_right; conv => whnf) | ((with_reducible first | refine p3 (g := 19) ?_ | show Exists _); refine ⟨_, ih_h (ih := by assumption) (hs := ?_) (hc := ?_) (h0 := ?_) (h1 := ?_) .., rfl, ?_⟩; rotate_right; conv => whnf) | (intro h; conv => whnf))
  all_goals repeat clear hK K1
  all_goals try (have hq := bO c i; have w1 := vD (k := k + s1 (c.take i)) omG omG; have w2 := wk_2 (k := k + s1 (c.take i)) omG omG; have w3 := wk_3 (k := k + s1 (c.take i)) omG omG; have w4 := wk_4 (k := k + s1 (c.take i)) omG omG)
  all_goals first | (with_reducible assumption) | ((with_reducible show (_ : Nat) < _); (dsimp only; omega)) | exact congrArg (Dat.int .i64) (uD asmR asmR).symm | (refine congrArg Dat.i ?_; rw [List.take_zero, s1]; omega) | (refine congrArg Dat.i ?_; rw [List.take_of_length_le (show c.length ≤ i by omega)]) | (have hb := (show (i : Int) < c.length by with_reducible assumption); have q := held_el hc hb; have c4 := zW hb; rw [Int.toNat_natCast] at *; first | ((with_reducible show (_ : Int) ≤ _); omega) | ((with_reducible show (_ : Int) < _); omega) | exact hQ hb hm | exact absurd q.1 asmR | exact absurd (q.2.1.trans w1.symm) asmR | exact absurd (q.2.2.1.trans w2.symm) asmR | exact absurd (q.2.2.2.1.trans (congrArg s9 w3.symm)) (str_ne asmR) | ((with_reducible show (_ : Nat) ≤ _); omega) | (rw [w4]; exact q.2.2.2.2) | (refine congrArg Dat.i ?_; rw [w4, eO hb, fO]; push_cast; omega) | (exfalso; omega)) | rfl | skip
theorem fT : ∀ m, IHm m
  | 0 => ⟨fun _ _ h => absurd h (Nat.not_lt_zero _)⟩
  | m + 1 => ⟨fun l k hs h0 h1 => g_mS0 m l k (fT m) (Nat.le_of_lt_succ hs) h0 h1⟩
theorem qbi (l : List V.Term) (k : Int) (h0 : 0 ≤ k) (h1 : k + s1 l ≤ 1099511627776) : CallsG Tryd.prog 18 [.row 0, .dat (.i k)] [.tree 24 .terms l] 1 (fun res B => res = .dat (.i (k + (s1 l : Nat))) ∧ B = [.tree 24 .terms (x4 l k)]) := (fT (d3 l + 1)).call l k (Nat.lt_succ_self _) h0 h1
theorem zU : ∀ m, IHh m
  | 0 => ⟨fun _ _ h => absurd h (Nat.not_lt_zero _)⟩
  | m + 1 => ⟨fun c k hs hc h0 h1 => l_hS0 m c k (zU m) (Nat.le_of_lt_succ hs) hc h0 h1⟩
theorem qax (l : List V.Term) (k : Int) (h0 : 0 ≤ k) (h1 : k + s1 l ≤ 1099511627776) : CallsV Tryd.prog 19 [.dat (.seq .terms (x4 l k)), .dat (.i k)] (.dat (.i (k + (s1 l : Nat)))) := by
  have e := kM l k k
  have := (zU (d3 (x4 l k) + 1)).call (x4 l k) k (Nat.lt_succ_self _) e.1 h0 (by rw [e.2]; exact h1)
  rwa [e.2] at this
theorem l_mTS0 (k : Int) : CallsV Tryd.prog 18 [.dat (.seq .terms []), .dat (.i k)] (.dat (.i k)) := by
  refine oV Tryd.func18 ⟨?_⟩
  repeat' (first | ((with_reducible refine fun (K1 : KT) hK => ?_); refine g6 ⟨?_⟩) | ((with_reducible show K1 _ _); subst hK; conv => whnf) | (with_reducible exact rfl) | refine f4 ⟨?_⟩ | ((with_reducible refine SplS.mk (fun h => ?_) (fun h => ?_)) <;> first | exact o6 | (subst h; conv => whnf) | (conv => whnf)) | (refine Exists.intro (Unit) (Exists.intro (fun _ => x5 Tryd.f18.ntmps [(0, .dat (.seq .terms [])), (1, .dat (.i k)), (5, .dat (.i 0))] []) (Exists.intro (fun _ => 0) (Exists.intro () (And.intro (SubP.sub (σ := []) ⟨⟨rfl, rfl, rfl⟩, ⟨j0 ?_, j0 ?_, j0 ?_, trivial⟩, trivial⟩) (fun _ => ?_))))); rotate_right; conv => whnf) | (refine Exists.intro () (And.intro ?_ (SubP.sub (σ := []) ⟨⟨rfl, rfl, rfl⟩, ⟨j0 ?_, j0 ?_, j0 ?_, trivial⟩, trivial⟩))) | (intro h; conv => whnf))
  all_goals repeat clear hK K1
  all_goals first | rfl | assumption | exact Bool.noConfusion (h.symm.trans hp) | omega | (dsimp only; omega)
theorem l_hTS0 (k : Int) : CallsV Tryd.prog 19 [.dat (.seq .terms []), .dat (.i k)] (.dat (.i k)) := by
  refine oV Tryd.func19 ⟨?_⟩
  repeat' (first | ((with_reducible refine fun (K1 : KT) hK => ?_); refine g6 ⟨?_⟩) | ((with_reducible show K1 _ _); subst hK; conv => whnf) | (with_reducible exact rfl) | refine f4 ⟨?_⟩ | ((with_reducible refine SplS.mk (fun h => ?_) (fun h => ?_)) <;> first | exact o6 | (subst h; conv => whnf) | (conv => whnf)) | (refine Exists.intro (Unit) (Exists.intro (fun _ => x5 Tryd.f19.ntmps [(0, .dat (.seq .terms [])), (1, .dat (.i k)), (5, .dat (.i 0))] []) (Exists.intro (fun _ => 0) (Exists.intro () (And.intro (SubP.sub (σ := []) ⟨⟨rfl, rfl, rfl⟩, ⟨j0 ?_, j0 ?_, j0 ?_, trivial⟩, trivial⟩) (fun _ => ?_))))); rotate_right; conv => whnf) | (refine Exists.intro () (And.intro ?_ (SubP.sub (σ := []) ⟨⟨rfl, rfl, rfl⟩, ⟨j0 ?_, j0 ?_, j0 ?_, trivial⟩, trivial⟩))) | (intro h; conv => whnf))
  all_goals repeat clear hK K1
  all_goals first | rfl | assumption | exact Bool.noConfusion (h.symm.trans hp) | omega | (dsimp only; omega)
/-! ### the marks of a term that is handed back: its kids lie in memory of their own, or it has none -/
theorem qbj (op w n : Int) (nm : ByteArray) (ks : List V.Term) (k : Int) (h0 : 0 ≤ k) (h1 : k + s1 ks ≤ 1099511627776) : CallsG Tryd.prog 7 [.agg [.dat (.i op), .dat (.i w), .dat (.i n), .dat (.str nm), .row 0], .dat (.i k)] [.tree 24 .terms ks] 1 (fun res B => res = .dat (.i (k + (s1 ks : Nat))) ∧ B = [.tree 24 .terms (x4 ks k)]) := by
  refine oG Tryd.func7 ⟨?_⟩
  repeat' (first | ((with_reducible refine fun (K1 : KT) hK => ?_); refine g6 ⟨?_⟩) | ((with_reducible show K1 _ _); subst hK; conv => whnf) | (with_reducible exact rfl) | refine f4 ⟨?_⟩ | ((with_reducible refine SplS.mk (fun h => ?_) (fun h => ?_)) <;> first | exact o6 | (subst h; conv => whnf) | (conv => whnf)) | refine g5 ⟨?_⟩ ⟨?_⟩ | ((with_reducible refine d6 (g := 18) ?_); refine ⟨_, _, qbi (h0 := ?_) (h1 := ?_) .., zV ?_⟩; rotate_right; conv => whnf) | (intro h; conv => whnf))
  all_goals repeat clear hK K1
  all_goals first | (with_reducible assumption) | exact ⟨rfl, rfl⟩ | rfl | skip
theorem qaz (op w n : Int) (nm : ByteArray) (ks : List V.Term) (k : Int) (h0 : 0 ≤ k) (h1 : k + s1 ks ≤ 1099511627776) : CallsV Tryd.prog 8 [.agg [.dat (.i op), .dat (.i w), .dat (.i n), .dat (.str nm), .dat (.seq .terms (x4 ks k))], .dat (.i k)] (.dat (.i (k + (s1 ks : Nat)))) := by
  refine oV Tryd.func8 ⟨?_⟩
  repeat' (first | ((with_reducible refine fun (K1 : KT) hK => ?_); refine g6 ⟨?_⟩) | ((with_reducible show K1 _ _); subst hK; conv => whnf) | (with_reducible exact rfl) | refine f4 ⟨?_⟩ | ((with_reducible refine SplS.mk (fun h => ?_) (fun h => ?_)) <;> first | exact o6 | (subst h; conv => whnf) | (conv => whnf)) | ((with_reducible first | refine p3 (g := 19) ?_ | show Exists _); refine ⟨_, qax (h0 := ?_) (h1 := ?_) .., rfl, ?_⟩; rotate_right; conv => whnf) | (intro h; conv => whnf))
  all_goals repeat clear hK K1
  all_goals first | (with_reducible assumption) | rfl | (exfalso; omega) | skip
theorem qaw (op w n : Int) (nm : ByteArray) (k : Int) : CallsV Tryd.prog 7 [.agg [.dat (.i op), .dat (.i w), .dat (.i n), .dat (.str nm), .dat (.seq .terms [])], .dat (.i k)] (.dat (.i k)) := by
  refine oV Tryd.func7 ⟨?_⟩
  repeat' (first | ((with_reducible refine fun (K1 : KT) hK => ?_); refine g6 ⟨?_⟩) | ((with_reducible show K1 _ _); subst hK; conv => whnf) | (with_reducible exact rfl) | refine f4 ⟨?_⟩ | ((with_reducible refine SplS.mk (fun h => ?_) (fun h => ?_)) <;> first | exact o6 | (subst h; conv => whnf) | (conv => whnf)) | ((with_reducible first | refine p3 (g := 18) ?_ | show Exists _); refine ⟨_, l_mTS0 .., rfl, ?_⟩; rotate_right; conv => whnf) | (intro h; conv => whnf))
  all_goals repeat clear hK K1
  all_goals first | rfl | skip
theorem qay (op w n : Int) (nm : ByteArray) (k : Int) (h0 : 0 ≤ k) : CallsV Tryd.prog 8 [.agg [.dat (.i op), .dat (.i w), .dat (.i n), .dat (.str nm), .dat (.seq .terms [])], .dat (.i k)] (.dat (.i k)) := by
  refine oV Tryd.func8 ⟨?_⟩
  repeat' (first | ((with_reducible refine fun (K1 : KT) hK => ?_); refine g6 ⟨?_⟩) | ((with_reducible show K1 _ _); subst hK; conv => whnf) | (with_reducible exact rfl) | refine f4 ⟨?_⟩ | ((with_reducible refine SplS.mk (fun h => ?_) (fun h => ?_)) <;> first | exact o6 | (subst h; conv => whnf) | (conv => whnf)) | ((with_reducible first | refine p3 (g := 19) ?_ | show Exists _); refine ⟨_, l_hTS0 .., rfl, ?_⟩; rotate_right; conv => whnf) | (intro h; conv => whnf))
  all_goals repeat clear hK K1
  all_goals first | rfl | (exfalso; omega) | skip
end Vg
