/- The reference's reader of terms: contracts of its small steps. Condition: texts are not too long. -/
import Derived.Test.YtcdepophgnlphaaDoorTxtC
import Derived.Test.YtcdepophgnlphaaDoorPoolL
namespace Vg
open Go Go.Proofs
set_option maxRecDepth 100000
set_option maxHeartbeats 40000000
/-! ### names of operations -/
def a7 (op : Int) : ByteArray := m0 (n8 op)
theorem opB_s {op : Int} (h1 : 1 ≤ op) (h2 : op ≤ 16) (l : List ByteArray) (hl : l = ByteArray.empty :: (opNs.take 16).map m0) : l.getD op.toNat K.strs.dflt = a7 op := by
  subst hl
  have h : ∀ k : Nat, k < 17 → 1 ≤ k → (ByteArray.empty :: (opNs.take 16).map m0).getD k K.strs.dflt = a7 (k : Int) := by decide
  have := h op.toNat omG omG
  rwa [show ((op.toNat : Nat) : Int) = op by omega] at this
theorem zY  : CallsV Tryd.prog 55 [] (.dat (.seq .strs (ByteArray.empty :: (opNs.take 16).map m0))) := by
  refine oV Tryd.func55 ⟨?_⟩
  repeat' (first | ((with_reducible refine fun (K1 : KT) hK => ?_); refine i7 ⟨?_⟩) | ((with_reducible show K1 _ _); subst hK; conv => whnf) | (with_reducible exact rfl) | refine f4 ⟨?_⟩ | ((with_reducible refine SplS.mk (fun h => ?_) (fun h => ?_)) <;> first | exact g7 | (subst h; conv => whnf) | (conv => whnf)) | (intro h; conv => whnf))
  all_goals repeat clear hK K1
  all_goals first | exact rfl | skip
theorem dZ (op : Int) (h1 : 1 ≤ op) (h2 : op ≤ 16) : CallsV Tryd.prog 42 [.dat (.i op)] (.dat (.str (a7 op))) := by
  refine oV Tryd.func42 ⟨?_⟩
  repeat' (first | ((with_reducible refine fun (K1 : KT) hK => ?_); refine i7 ⟨?_⟩) | ((with_reducible show K1 _ _); subst hK; conv => whnf) | (with_reducible exact rfl) | refine f4 ⟨?_⟩ | ((with_reducible refine SplS.mk (fun h => ?_) (fun h => ?_)) <;> first | exact g7 | (subst h; conv => whnf) | (conv => whnf)) | refine g5 ⟨?_⟩ ⟨?_⟩ | ((with_reducible first | refine p3 (g := 24) ?_ | show Exists _); refine ⟨_, vC .., rfl, ?_⟩; rotate_right; conv => whnf) | ((with_reducible first | refine p3 (g := 55) ?_ | show Exists _); refine ⟨_, zY .., rfl, ?_⟩; rotate_right; conv => whnf) | (intro h; conv => whnf))
  all_goals repeat clear hK K1
  all_goals first | exact absurd ((w7.2 ⟨h1, h2⟩).symm.trans h) (by decide) | exact congrArg Dat.str (opB_s h1 h2 _ rfl).symm | omega | (show op < 17; omega) | skip
theorem tQ (op : Int) (h1 : 1 ≤ op) (h2 : op ≤ 21) : CallsV Tryd.prog 22 [.dat (.i op)] (.dat (.str (a7 op))) := by
  refine oV Tryd.func22 ⟨?_⟩
  repeat' (first | ((with_reducible refine fun (K1 : KT) hK => ?_); refine i7 ⟨?_⟩) | ((with_reducible show K1 _ _); subst hK; conv => whnf) | (with_reducible exact rfl) | refine f4 ⟨?_⟩ | ((with_reducible refine SplS.mk (fun h => ?_) (fun h => ?_)) <;> first | exact g7 | (subst h; conv => whnf) | (conv => whnf)) | ((with_reducible first | refine p3 (g := 42) ?_ | show Exists _); refine ⟨_, dZ (h1 := ?_) (h2 := ?_) .., rfl, ?_⟩; rotate_right; conv => whnf) | (intro h; conv => whnf))
  all_goals repeat clear hK K1
  all_goals first | exact rfl | omega | skip
/-! ### the reader's box -/
structure SufW (ws : List ByteArray) (st : Wds) : Prop where
  suf : ∀ r, st = some r → r <:+ ws.map (·.data.toList)
  len : ws.length ≤ 2097153
  sz : ∀ x ∈ ws, x.size ≤ 1048576
def d4 (ws : List ByteArray) : Wds → Int
  | none => -1
  | some r => (ws.length : Int) - r.length
section
variable {ws : List ByteArray} {st : Wds}
theorem at_s (ws : List ByteArray) (r : List Bs) : d4 ws (some r) = (ws.length : Int) - r.length := rfl
theorem SufW.le {r : List Bs} (h : SufW ws (some r)) : r.length ≤ ws.length := by
  have := (h.suf r rfl).length_le
  rwa [List.length_map] at this
theorem nx_a (h : SufW ws st) (hl : d4 ws st < 0) : st = none := by
  cases st with
  | none => rfl
  | some r => have := h.le; rw [at_s] at hl; omega
theorem nx_b (h : SufW ws st) (h1 : ¬ d4 ws st < 0) (h2 : d4 ws st ≥ ws.length) : st = some [] := by
  cases st with
  | none => exact absurd (show (-1 : Int) < 0 by decide) h1
  | some r =>
    rw [at_s] at h2
    have : r.length = 0 := by omega
    rw [List.eq_nil_of_length_eq_zero this]
theorem nx_c (h : SufW ws st) (h1 : ¬ d4 ws st < 0) (h2 : ¬ d4 ws st ≥ ws.length) : ∃ x r, st = some (x :: r) ∧ ws.getD (d4 ws st).toNat ByteArray.empty = m0 x ∧ SufW ws (some r) ∧ d4 ws (some r) = d4 ws st + 1 := by
  cases st with
  | none => exact absurd (show (-1 : Int) < 0 by decide) h1
  | some l =>
    cases l with
    | nil => exact absurd (show (ws.length : Int) - (([] : List Bs).length : Int) ≥ ws.length by simp) h2
    | cons x r =>
      obtain ⟨p, hp⟩ := h.suf _ rfl
      have hle := h.le
      refine ⟨x, r, rfl, ?_, ⟨fun r' e => by exact ⟨p ++ [x], by injection e with e; subst e; rw [List.append_assoc]; exact hp⟩, h.len, h.sz⟩, by rw [at_s, at_s, List.length_cons]; push_cast; omega⟩
      have hpl : p.length + (r.length + 1) = ws.length := by have := congrArg List.length hp; rwa [List.length_append, List.length_map, List.length_cons] at this
      have e : (d4 ws (some (x :: r))).toNat = p.length := by rw [at_s, List.length_cons]; push_cast; omega
      rw [e]
      have hg : (ws.map (·.data.toList))[p.length]? = some x := by rw [← hp, List.getElem?_append_right (Nat.le_refl _), Nat.sub_self]; rfl
      rw [List.getElem?_map] at hg
      rw [List.getD_eq_getElem?_getD]
      cases hq : ws[p.length]? with
      | none => rw [hq] at hg; cases hg
      | some y => rw [hq] at hg; injection hg with hg; subst hg; rfl
theorem SufW.nx (h : SufW ws st) : SufW ws (j3 st).2 := by
  match st, h with
  | some (x :: l), h => exact ⟨fun r e => by injection e with e; subst e; exact (List.suffix_cons x l).trans (h.suf _ rfl), h.len, h.sz⟩
  | some [], h => exact ⟨fun _ e => (nomatch e), h.len, h.sz⟩
  | none, h => exact ⟨fun _ e => (nomatch e), h.len, h.sz⟩
theorem oX (h : SufW ws st) : d4 ws st ≤ 2097153 := by
  cases st with
  | none => exact (by decide : (-1 : Int) ≤ 2097153)
  | some r => have := h.len; rw [at_s]; omega
end
section
variable {ws : List ByteArray} {st : Wds}
theorem wq {n : Int} (h1 : 0 ≤ n) (h2 : n ≤ 2097153) : IntKind.i64.wrap (n + 1) = n + 1 ∧ IntKind.i64.wrap (IntKind.i64.wrap (n + 1) - 1) = n := by
  rw [g4 (n := n + 1) omG omG]
  exact ⟨rfl, by rw [g4 omG omG]; omega⟩
theorem nx1 (h : st = none ∨ st = some []) : [Blk.box [AV.dat (Dat.seq K.strs ws), AV.dat (Dat.int .i64 (-1))]] = [Blk.box [AV.dat (Dat.seq K.strs ws), AV.dat (Dat.i (d4 ws (j3 st).2))]] ∧ AV.dat (Dat.str { data := #[] }) = AV.dat (Dat.str (m0 (j3 st).1)) := by
  rcases h with rfl | rfl <;> exact ⟨rfl, rfl⟩
theorem nx2 (h : SufW ws st) (h1 : ¬ d4 ws st < 0) (h2 : ¬ d4 ws st ≥ ws.length) : [Blk.box [AV.dat (Dat.seq K.strs ws), AV.dat (Dat.int .i64 (IntKind.i64.wrap (d4 ws st + 1)))]] = [Blk.box [AV.dat (Dat.seq K.strs ws), AV.dat (Dat.i (d4 ws (j3 st).2))]] ∧
    AV.dat (Dat.str (ws.getD (IntKind.i64.wrap (IntKind.i64.wrap (d4 ws st + 1) - 1)).toNat K.strs.dflt)) = AV.dat (Dat.str (m0 (j3 st).1)) := by
  have hw := wq omG (oX h)
  obtain ⟨x, r, rfl, h3, _, h4⟩ := nx_c h h1 h2
  rw [hw.2, hw.1, ← h4]
  exact ⟨rfl, congrArg (fun x => AV.dat (Dat.str x)) h3⟩
end
theorem dM {ws : List ByteArray} {st : Wds} (h : SufW ws st) : (m0 (j3 st).1).size ≤ 1048576 := by
  match st, h with
  | some (x :: l), h =>
    have hx : x ∈ ws.map (·.data.toList) := (h.suf _ rfl).subset (List.mem_cons_self ..)
    obtain ⟨y, hy, rfl⟩ := List.mem_map.1 hx
    exact h.sz y hy
  | some [], _ => exact Nat.zero_le _
  | none, _ => exact Nat.zero_le _
theorem sQ (ws : List ByteArray) (st : Wds) (hw : SufW ws st) : CallsG Tryd.prog 20 [.ptr 0 0] [.box [.dat (.seq .strs ws), .dat (.i (d4 ws st))]] 1 (fun res B => res = .dat (.str (m0 (j3 st).1)) ∧ B = [.box [.dat (.seq .strs ws), .dat (.i (d4 ws (j3 st).2))]]) := by
  refine oG Tryd.func20 ⟨?_⟩
  repeat' (first | ((with_reducible refine fun (K1 : KT) hK => ?_); refine i7 ⟨?_⟩) | ((with_reducible show K1 _ _); subst hK; conv => whnf) | (with_reducible exact rfl) | refine f4 ⟨?_⟩ | ((with_reducible refine SplS.mk (fun h => ?_) (fun h => ?_)) <;> first | exact g7 | (subst h; conv => whnf) | (conv => whnf)) | refine g5 ⟨?_⟩ ⟨?_⟩ | (intro h; conv => whnf))
  all_goals repeat clear hK K1
  all_goals first | exact (nx1 (ws := ws) (.inl (nx_a hw asmR))).1 | exact (nx1 (ws := ws) (.inl (nx_a hw asmR))).2 | exact (nx1 (ws := ws) (.inr (nx_b hw asmR asmR))).1 | exact (nx1 (ws := ws) (.inr (nx_b hw asmR asmR))).2 | exact (nx2 hw asmR asmR).1 | exact (nx2 hw asmR asmR).2 | (rw [(wq omG (oX hw)).2]; omega) | skip
theorem SufW.int {ws : List ByteArray} {st : Wds} (h : SufW ws st) : SufW ws (v7 st).2 := by
  show SufW ws (if (a6 (j3 st).1).2 = true then (j3 st).2 else none)
  split
  · exact h.nx
  · exact ⟨fun _ e => (nomatch e), h.len, h.sz⟩
theorem int_n {ws : List ByteArray} {st : Wds} (h : (s4 (m0 (j3 st).1)).2 = false) : [Blk.box [AV.dat (Dat.seq K.strs ws), AV.dat (Dat.int .i64 (-1))]] = [Blk.box [AV.dat (Dat.seq K.strs ws), AV.dat (Dat.i (d4 ws (v7 st).2))]] := by
  have e : (v7 st).2 = none := if_neg (fun q => by rw [show a6 (j3 st).1 = s4 (m0 (j3 st).1) from rfl, h] at q; cases q)
  rw [e]; rfl
theorem int_y {ws : List ByteArray} {st : Wds} (h : (s4 (m0 (j3 st).1)).2 = true) : [Blk.box [AV.dat (Dat.seq K.strs ws), AV.dat (Dat.int .i64 (d4 ws (j3 st).2))]] = [Blk.box [AV.dat (Dat.seq K.strs ws), AV.dat (Dat.i (d4 ws (v7 st).2))]] := by
  have e : (v7 st).2 = (j3 st).2 := if_pos h
  rw [e]
theorem vY (ws : List ByteArray) (st : Wds) (hw : SufW ws st) : CallsG Tryd.prog 23 [.ptr 0 0] [.box [.dat (.seq .strs ws), .dat (.i (d4 ws st))]] 1 (fun res B => res = .dat (.i (v7 st).1) ∧ B = [.box [.dat (.seq .strs ws), .dat (.i (d4 ws (v7 st).2))]]) := by
  refine oG Tryd.func23 ⟨?_⟩
  repeat' (first | ((with_reducible refine fun (K1 : KT) hK => ?_); refine i7 ⟨?_⟩) | ((with_reducible show K1 _ _); subst hK; conv => whnf) | (with_reducible exact rfl) | refine f4 ⟨?_⟩ | ((with_reducible refine SplS.mk (fun h => ?_) (fun h => ?_)) <;> first | exact g7 | (subst h; conv => whnf) | (conv => whnf)) | refine g5 ⟨?_⟩ ⟨?_⟩ | ((with_reducible first | refine p3 (g := 40) ?_ | show Exists _); refine ⟨_, vQ (hs := ?_) .., rfl, ?_⟩; rotate_right; conv => whnf) | ((with_reducible refine d6 (g := 20) ?_); refine ⟨_, _, sQ (hw := ?_) .., zV ?_⟩; rotate_right; conv => whnf) | (intro h; conv => whnf))
  all_goals repeat clear hK K1
  all_goals first | exact hw | exact dM hw | exact rfl | exact int_n asmR | exact int_y asmR | skip
structure LfI (s : ByteArray) (i : Nat) : Prop where
  le : i ≤ s.size
  no : 58 ∉ s.data.toList.take i
theorem LfI.zero (s : ByteArray) : LfI s 0 := ⟨Nat.zero_le _, by simp⟩
section
variable {s : ByteArray} {i : Nat}
theorem LfI.next (hi : LfI s i) (h : (i : Int) < s.size) (hc : ¬ ((s.data.toList.getD (i : Int).toNat 0).toNat : Int) = 58) : LfI s (i + 1) := by
  rw [Int.toNat_natCast] at hc
  have hl : s.data.toList.length = s.size := rfl
  have h' : i < s.data.toList.length := by omega
  refine ⟨by omega, fun hm => ?_⟩
  rw [List.take_succ_eq_append_getElem h', List.mem_append] at hm
  rcases hm with hm | hm
  · exact hi.no hm
  · rw [List.mem_singleton] at hm
    rw [List.getD_eq_getElem?_getD, List.getElem?_eq_getElem h', ← hm] at hc
    exact hc rfl
theorem vW : ∀ {l : Bs}, 58 ∉ l → f8 l = none
  | [], _ => rfl
  | c :: l, h => by
    rw [List.mem_cons, not_or] at h
    rw [f8, if_neg (Ne.symm h.1), vW h.2]
theorem pT (hi : LfI s i) (hs : s.size ≤ 1048576) (h : (i : Int) < s.size) (hc : ((s.data.toList.getD (i : Int).toNat 0).toNat : Int) = 58) :
    f8 s.data.toList = some ((s.extract 0 (i : Int).toNat).data.toList, (s.extract (IntKind.i64.wrap ((i : Int) + 1)).toNat s.size).data.toList) := by
  rw [Int.toNat_natCast] at hc
  have hl : s.data.toList.length = s.size := rfl
  have h' : i < s.data.toList.length := by omega
  have e1 : (s.extract 0 (i : Int).toNat).data.toList = s.data.toList.take i := by
    rw [Int.toNat_natCast, ByteArray.data_extract, Array.toList_extract, List.extract_eq_take_drop, List.drop_zero, Nat.sub_zero]
  have e2 : (s.extract (IntKind.i64.wrap ((i : Int) + 1)).toNat s.size).data.toList = s.data.toList.drop (i + 1) := by
    rw [g4 omG omG, show ((i : Int) + 1).toNat = i + 1 by omega, ByteArray.data_extract, Array.toList_extract, List.extract_eq_take_drop, List.take_of_length_le (by rw [List.length_drop]; omega)]
  have e3 : s.data.toList = s.data.toList.take i ++ 58 :: s.data.toList.drop (i + 1) := by
    have hd := uN h
    rw [c_eq (n := 58) (by decide) hc] at hd
    have := List.take_append_drop i s.data.toList
    rw [hd] at this
    exact this.symm
  rw [e1, e2]
  conv => lhs; rw [e3]
  exact eF hi.no
theorem leaf_y (hi : LfI s i) (hs : s.size ≤ 1048576) (h : (i : Int) < s.size) (hc : ((s.data.toList.getD (i : Int).toNat 0).toNat : Int) = 58) (hp : (s4 (s.extract 0 (i : Int).toNat)).2 = true) :
    x6 s.data.toList = (⟨0, (s4 (s.extract 0 (i : Int).toNat)).1, (s4 (s.extract (IntKind.i64.wrap ((i : Int) + 1)).toNat s.size)).1, ByteArray.empty, []⟩, (s4 (s.extract (IntKind.i64.wrap ((i : Int) + 1)).toNat s.size)).2) := by
  unfold x6
  rw [pT hi hs h hc]
  exact if_pos hp
theorem leaf_n (hi : LfI s i) (hs : s.size ≤ 1048576) (h : (i : Int) < s.size) (hc : ((s.data.toList.getD (i : Int).toNat 0).toNat : Int) = 58) (hp : (s4 (s.extract 0 (i : Int).toNat)).2 = false) :
    x6 s.data.toList = (⟨22, (s4 (s.extract (IntKind.i64.wrap ((i : Int) + 1)).toNat s.size)).1, 0, s.extract 0 (i : Int).toNat, []⟩, (s4 (s.extract (IntKind.i64.wrap ((i : Int) + 1)).toNat s.size)).2) := by
  unfold x6
  rw [pT hi hs h hc]
  exact if_neg (fun e => by rw [show a6 (s.extract 0 (i : Int).toNat).data.toList = s4 (s.extract 0 (i : Int).toNat) from rfl, hp] at e; cases e)
theorem leaf_e (hi : LfI s i) (h : ¬ (i : Int) < s.size) : x6 s.data.toList = (r4, false) := by
  have hl : s.data.toList.length = s.size := rfl
  have hn := hi.no
  rw [List.take_of_length_le omG] at hn
  unfold x6
  rw [vW hn]
theorem ext_le {a b : Nat} (hs : s.size ≤ 1048576) : (s.extract a b).size ≤ 1048576 := by rw [ByteArray.size_extract]; omega
end
theorem uY (s : ByteArray) (hs : s.size ≤ 1048576) : CallsV Tryd.prog 21 [.dat (.str s)] (.tup [q8 (x6 s.data.toList).1, .dat (.bool (x6 s.data.toList).2)]) := by
  refine oV Tryd.func21 ⟨?_⟩
  repeat' (first | ((with_reducible refine fun (K1 : KT) hK => ?_); refine i7 ⟨?_⟩) | ((with_reducible show K1 _ _); subst hK; conv => whnf) | (with_reducible exact rfl) | refine f4 ⟨?_⟩ | ((with_reducible refine SplS.mk (fun h => ?_) (fun h => ?_)) <;> first | exact g7 | (subst h; conv => whnf) | (conv => whnf)) | refine g5 ⟨?_⟩ ⟨?_⟩ | (refine Exists.intro ({i : Nat // LfI s i}) (Exists.intro (fun ⟨i, hi⟩ => x5 Tryd.f21.ntmps [(0, .dat (.str s)), (2, .ptr 2 0), (4, .dat (.i i))] [(2, .box [.dat (.i 0), .dat (.i 0), .dat (.i 0), .dat (.str ⟨#[]⟩), .nils])]) (Exists.intro (fun ⟨i, hi⟩ => s.size - i) (Exists.intro ⟨0, LfI.zero s⟩ (And.intro (SubP.sub (σ := [(2, some 2)]) ⟨⟨rfl, rfl, rfl⟩, ⟨j0 ?_, ⟨rfl, rfl⟩, j0 ?_, trivial⟩, ⟨⟨g0 ?_, g0 ?_, g0 ?_, g0 ?_, trivial, trivial⟩, trivial⟩⟩) (fun ⟨i, hi⟩ => ?_))))); rotate_right; conv => whnf) | (refine Exists.intro (⟨i + 1, ?_⟩ : {i : Nat // LfI s i}) (And.intro ?_ (SubP.sub (σ := [(2, some 2)]) ⟨⟨rfl, rfl, rfl⟩, ⟨j0 ?_, ⟨rfl, rfl⟩, j0 ?_, trivial⟩, ⟨⟨g0 ?_, g0 ?_, g0 ?_, g0 ?_, trivial, trivial⟩, trivial⟩⟩))) | ((with_reducible first | refine p3 (g := 40) ?_ | show Exists _); refine ⟨_, vQ (hs := ?_) .., rfl, ?_⟩; rotate_right; conv => whnf) | ((with_reducible first | refine p3 (g := 41) ?_ | show Exists _); refine ⟨_, yY .., rfl, ?_⟩; rotate_right; conv => whnf) | (intro h; conv => whnf))
  all_goals repeat clear hK K1
  all_goals first | exact True.intro | exact hi.next asmR asmR | exact fr5M (congrArg Prod.fst (leaf_y hi hs asmR asmR asmR)) | exact fr5Mn (congrArg Prod.fst (leaf_n hi hs asmR asmR asmR)) | exact fr5Mn (congrArg Prod.fst (leaf_e hi asmR)) | exact db_eq (congrArg Prod.snd (leaf_y hi hs asmR asmR asmR)) | exact db_eq (congrArg Prod.snd (leaf_n hi hs asmR asmR asmR)) | exact db_eq (congrArg Prod.snd (leaf_e hi asmR)) | exact ext_le hs | (with_reducible assumption) | ((with_reducible show Dat.int _ _ = Dat.int _ _); refine congrArg (Dat.int .i64) ?_; rw [g4 omG omG]; rfl) | ((with_reducible show (_ : Int) ≤ _); first | omega | (rw [g4 omG omG]; omega)) | ((with_reducible show (_ : Nat) < _); dsimp only; omega) | exact rfl | skip
theorem mkA (a b : Bs) : m0 a ++ m0 b = m0 (a ++ b) := ByteArray.ext (Array.ext' (by rw [ByteArray.data_append, Array.toList_append]; rfl))
theorem mk1 (s : ByteArray) (b : Bs) : s ++ m0 b = m0 (s.data.toList ++ b) := mkA s.data.toList b
structure IHf (m : Nat) : Prop where
  call : ∀ (op w n : Int) (nm : ByteArray) (ks : List V.Term), okT ⟨op, w, n, nm, ks⟩ = true → sizeT ⟨op, w, n, nm, ks⟩ < m → CallsV Tryd.prog 12 [.agg [.dat (.i op), .dat (.i w), .dat (.i n), .dat (.str nm), .dat (.seq .terms ks)]] (.dat (.str (m0 (fmtL ⟨op, w, n, nm, ks⟩))))
theorem ih_f {m : Nat} (ih : IHf m) {op w n : Int} {nm : ByteArray} {ks : List V.Term} (hk : okT ⟨op, w, n, nm, ks⟩ = true) (hs : sizeT ⟨op, w, n, nm, ks⟩ < m) :
    CallsV Tryd.prog 12 [.agg [.dat (.i op), .dat (.i w), .dat (.i n), .dat (.str nm), .dat (.seq .terms ks)]] (.dat (.str (m0 (fmtL ⟨op, w, n, nm, ks⟩)))) := ih.call op w n nm ks hk hs
def hdL (op w n : Int) : Bs := 40 :: (n8 op ++ ((if op = 19 then 32 :: r0 n else []) ++ (if 19 ≤ op ∧ op ≤ 21 then 32 :: r0 w else [])))
theorem fmt_c {t : V.Term} (h : t.op = 0) : fmtL t = r0 t.w ++ 58 :: r0 t.n := by cases t; rw [fmtL]; exact if_pos h
theorem fmt_v {t : V.Term} (h : t.op = 22) : fmtL t = t.name.data.toList ++ 58 :: r0 t.w := by cases t; rw [fmtL]; dsimp only at h; rw [if_neg omG, if_pos h]
theorem fmt_n {t : V.Term} (h0 : ¬ t.op = 0) (h1 : ¬ t.op = 22) : fmtL t = hdL t.op t.w t.n ++ z1 t.kids ++ [41] := by
  cases t; rw [fmtL]; dsimp only at h0 h1; rw [if_neg h0, if_neg h1]; unfold hdL
  simp only [List.cons_append, List.append_assoc]
theorem itB (n : Int) : u2 n = m0 (r0 n) := rfl
theorem chB (c : UInt8) : ({ data := #[c] } : ByteArray) = m0 [c] := rfl
theorem fs_c {t : V.Term} (h : t.op = 0) : m0 (fmtL t) = u2 t.w ++ { data := #[58] } ++ u2 t.n := by
  rw [fmt_c h, itB, itB, chB]; simp only [mkA, List.append_assoc, List.cons_append, List.nil_append]
theorem fs_v {t : V.Term} (h : t.op = 22) : m0 (fmtL t) = t.name ++ { data := #[58] } ++ u2 t.w := by
  rw [fmt_v h, itB, chB, mk1 t.name, mkA, List.append_assoc]; rfl
section
variable {op w n : Int}
theorem hd_1 (h : op = 19) (h2 : inP op 19 21 = true) : m0 (hdL op w n) = { data := #[40] } ++ a7 op ++ { data := #[32] } ++ u2 n ++ { data := #[32] } ++ u2 w := by
  have h2' := w7.1 h2
  unfold hdL a7
  rw [if_pos h, if_pos h2', itB, itB, chB, chB]
  simp only [mkA, List.append_assoc, List.cons_append, List.nil_append]
theorem hd_2 (h : ¬ op = 19) (h2 : inP op 19 21 = true) : m0 (hdL op w n) = { data := #[40] } ++ a7 op ++ { data := #[32] } ++ u2 w := by
  have h2' := w7.1 h2
  unfold hdL a7
  rw [if_neg h, if_pos h2', itB, chB, chB]
  simp only [mkA, List.append_assoc, List.cons_append, List.nil_append]
theorem hd_3 (h : ¬ op = 19) (h2 : inP op 19 21 = false) : m0 (hdL op w n) = { data := #[40] } ++ a7 op := by
  have h2' : ¬ (19 ≤ op ∧ op ≤ 21) := fun q => by rw [w7.2 q] at h2; cases h2
  unfold hdL a7
  rw [if_neg h, if_neg h2', chB]
  simp only [mkA, List.cons_append, List.nil_append, List.append_nil]
end
theorem oN : ∀ (a b : List V.Term), z1 (a ++ b) = z1 a ++ z1 b
  | [], b => by rw [z1]; rfl
  | t :: a, b => by rw [List.cons_append, z1, z1, oN a b]; simp only [List.cons_append, List.append_assoc]
theorem qbo {ks : List V.Term} {i : Nat} (h : (i : Int) < ks.length) : z1 (ks.take (i + 1)) = z1 (ks.take i) ++ 32 :: fmtL (ks.getD (i : Int).toNat K.terms.dflt) := by
  rw [bL h, oN, z1, z1, List.append_nil, Int.toNat_natCast]
theorem dV {b : Bs} {ks : List V.Term} {i : Nat} (h : (i : Int) < ks.length) : m0 (b ++ z1 (ks.take (i + 1))) = m0 (b ++ z1 (ks.take i)) ++ { data := #[32] } ++ m0 (fmtL ⟨(ks.getD (i : Int).toNat K.terms.dflt).op, (ks.getD (i : Int).toNat K.terms.dflt).w, (ks.getD (i : Int).toNat K.terms.dflt).n, (ks.getD (i : Int).toNat K.terms.dflt).name, (ks.getD (i : Int).toNat K.terms.dflt).kids⟩) := by
  rw [V.Term.eta, qbo h, chB]
  simp only [mkA, List.append_assoc, List.cons_append, List.nil_append]
theorem eV {t : V.Term} {i : Nat} (h0 : ¬ t.op = 0) (h1 : ¬ t.op = 22) (h : ¬ (i : Int) < t.kids.length) : m0 (fmtL t) = m0 (hdL t.op t.w t.n ++ z1 (t.kids.take i)) ++ { data := #[41] } := by
  rw [fmt_n h0 h1, chB, mkA, List.take_of_length_le omG]
theorem in_no {op : Int} (h : op = 19) (h2 : inP op 19 21 = false) : False := absurd ((w7.2 ⟨by omega, by omega⟩).symm.trans h2) (by decide)
/-! ### lengths -/
theorem yS (a : Bs) : (m0 a).size = a.length := rfl
theorem sB (a b : ByteArray) : (a ++ b).size = a.size + b.size := ByteArray.size_append
structure FmB (t : V.Term) : Prop where
  w : (u2 t.w).size ≤ 6
  n : (u2 t.n).size ≤ 6
  nm : t.op = 22 → t.name.size ≤ 8
  w0 : 0 ≤ t.w ∧ t.w < 1000000
  n0 : 0 ≤ t.n ∧ t.n < 1000000
  all : (fmtL t).length ≤ 9600
theorem fmB {t : V.Term} (hk : okT t = true) (hz : sizeT t ≤ 240) : FmB t := by
  have hi := cC hk
  have h1 := rE (n := t.w) omG omG
  have h2 := rE (n := t.n) omG omG
  refine ⟨Nat.le_succ_of_le h1, Nat.le_succ_of_le h2, fun h => ?_, by omega, by omega, ?_⟩
  · have hn := mG hk h
    unfold isNameP at hn
    rw [Bool.and_eq_true] at hn
    have := (w7.1 hn.1).2
    omega
  · have := pN t hk
    omega
theorem lG {op : Int} (h1 : 1 ≤ op) (h2 : op ≤ 21) : (a7 op).size ≤ 7 := zL h1 h2
theorem dN {t : V.Term} {i : Nat} (h0 : ¬ t.op = 0) (h1 : ¬ t.op = 22) (hb : FmB t) : (hdL t.op t.w t.n ++ z1 (t.kids.take i)).length ≤ 9600 := by
  have h := hb.all
  rw [fmt_n h0 h1] at h
  have e : (z1 t.kids).length = (z1 (t.kids.take i)).length + (z1 (t.kids.drop i)).length := by
    conv => lhs; rw [← List.take_append_drop i t.kids, oN, List.length_append]
  simp only [List.length_append, List.length_cons, List.length_nil] at h ⊢
  omega
theorem kid_sz {t : V.Term} {i : Nat} (hk : okT t = true) (hz : sizeT t ≤ 240) (h : (i : Int) < t.kids.length) : (m0 (fmtL ⟨(t.kids.getD (i : Int).toNat K.terms.dflt).op, (t.kids.getD (i : Int).toNat K.terms.dflt).w, (t.kids.getD (i : Int).toNat K.terms.dflt).n, (t.kids.getD (i : Int).toNat K.terms.dflt).name, (t.kids.getD (i : Int).toNat K.terms.dflt).kids⟩)).size ≤ 9600 := by
  rw [V.Term.eta]
  have h1 : sizeT (t.kids.getD (i : Int).toNat K.terms.dflt) < sizeT t := yB h
  exact (fmB (fJ hk (i := (i : Int).toNat) omG) (Nat.le_trans (Nat.le_of_lt h1) hz)).all
set_option maxRecDepth 100000 in
theorem s_Fmt0 (t : V.Term) (ih : IHf (sizeT t)) (hk : okT t = true) (hz : sizeT t ≤ 240) (ho : FmB t) (hop : 0 ≤ t.op ∧ t.op ≤ 22) : CallsV Tryd.prog 12 [.agg [.dat (.i t.op), .dat (.i t.w), .dat (.i t.n), .dat (.str t.name), .dat (.seq .terms t.kids)]] (.dat (.str (m0 (fmtL t)))) := by
  refine oV Tryd.func12 ⟨?_⟩
  repeat' (first | ((with_reducible refine fun (K1 : KT) hK => ?_); refine i7 ⟨?_⟩) | ((with_reducible show K1 _ _); subst hK; conv => whnf) | (with_reducible exact rfl) | refine f4 ⟨?_⟩ | ((with_reducible refine SplS.mk (fun h => ?_) (fun h => ?_)) <;> first | exact g7 | (subst h; conv => whnf) | (conv => whnf)) | refine g5 ⟨?_⟩ ⟨?_⟩ | (refine Exists.intro ({i : Nat // i ≤ t.kids.length}) (Exists.intro (fun ⟨i, hi⟩ => x5 Tryd.f12.ntmps [(1, .ptr 1 0), (3, .dat (.str (m0 (hdL t.op t.w t.n ++ z1 (t.kids.take i))))), (50, .dat (.seq .terms t.kids)), (51, .dat (.i t.kids.length)), (52, .dat (.i i))] [(1, .box [.dat (.i t.op), .dat (.i t.w), .dat (.i t.n), .dat (.str t.name), .dat (.seq .terms t.kids)])]) (Exists.intro (fun ⟨i, hi⟩ => t.kids.length - i) (Exists.intro ⟨0, Nat.zero_le _⟩ (And.intro (SubP.sub (σ := [(1, some 1)]) ⟨⟨rfl, rfl, rfl⟩, ⟨⟨rfl, rfl⟩, j0 ?_, j0 ?_, j0 ?_, j0 ?_, trivial⟩, ⟨⟨g0 ?_, g0 ?_, g0 ?_, g0 ?_, g0 ?_, trivial⟩, trivial⟩⟩) (fun ⟨i, hi⟩ => ?_))))); rotate_right; conv => whnf) | (refine Exists.intro (⟨i + 1, ?_⟩ : {i : Nat // i ≤ t.kids.length}) (And.intro ?_ (SubP.sub (σ := [(1, some 1)]) ⟨⟨rfl, rfl, rfl⟩, ⟨⟨rfl, rfl⟩, j0 ?_, j0 ?_, j0 ?_, j0 ?_, trivial⟩, ⟨⟨g0 ?_, g0 ?_, g0 ?_, g0 ?_, g0 ?_, trivial⟩, trivial⟩⟩))) | ((with_reducible first | refine p3 (g := 28) ?_ | show Exists _); refine ⟨_, gZ (h0 := ?_) (h1 := ?_) .., rfl, ?_⟩; rotate_right; conv => whnf) | ((with_reducible first | refine p3 (g := 28) ?_ | show Exists _); refine ⟨_, ih (_h1 := ?_) (_h2 := ?_) (_h3 := ?_) .., rfl, ?_⟩; rotate_right; conv => whnf) | ((with_reducible first | refine p3 (g := 22) ?_ | show Exists _); refine ⟨_, tQ (h1 := ?_) (h2 := ?_) .., rfl, ?_⟩; rotate_right; conv => whnf) | ((with_reducible first | refine p3 (g := 24) ?_ | show Exists _); refine ⟨_, vC .., rfl, ?_⟩; rotate_right; conv => whnf) | ((with_reducible first | refine p3 (g := 12) ?_ | show Exists _); refine ⟨_, ih_f (ih := by assumption) (hk := ?_) (hs := ?_) .., rfl, ?_⟩; rotate_right; conv => whnf) | (intro h; conv => whnf))
  all_goals repeat clear hK K1
  all_goals first | exact ho.w0.1 | exact ho.w0.2 | exact ho.n0.1 | exact ho.n0.2 | ((with_reducible show _ ≤ maxLen); (try simp only [sB]); have hm : maxLen = 9223372036854775807 := rfl; have b1 := ho.w; have b2 := ho.n; have b3 := ho.nm; rw [hm]; first | (have b4 := lG (op := t.op) omG omG; have c1 : ({ data := #[32] } : ByteArray).size = 1 := rfl; have c2 : ({ data := #[40] } : ByteArray).size = 1 := rfl; omega) | (have c1 : ({ data := #[58] } : ByteArray).size = 1 := rfl; (try have b5 := b3 asmR); omega) | (have b4 : (m0 (hdL t.op t.w t.n ++ z1 (t.kids.take i))).size ≤ 9600 := dN asmR asmR ho; have c1 : ({ data := #[32] } : ByteArray).size = 1 := rfl; have c2 : ({ data := #[41] } : ByteArray).size = 1 := rfl; first | omega | (have b6 := kid_sz hk hz asmR; omega))) | ((with_reducible show Dat.str _ = Dat.str _); refine congrArg Dat.str ?_; first | exact fs_c asmR | exact fs_v asmR | exact eV asmR asmR asmR | exact dV asmR | (rw [List.take_zero, z1, List.append_nil]; first | exact hd_1 asmR asmR | exact hd_2 asmR asmR | exact hd_3 asmR asmR | exact (in_no asmR asmR).elim)) | ((with_reducible show okT _ = true); rw [V.Term.eta]; exact fJ hk (i := (i : Int).toNat) omG) | ((with_reducible show sizeT _ < _); rw [V.Term.eta]; exact yB asmR) | ((with_reducible show Dat.int _ _ = Dat.int _ _); first | exact congrArg (Dat.int .i64) (uD asmR asmR).symm | exact rfl) | ((with_reducible show (_ : Nat) < _); dsimp only; omega) | omega | skip
theorem s_fmt : ∀ (m : Nat), m ≤ 241 → IHf m
  | 0, _ => ⟨fun _ _ _ _ _ _ h => absurd h (Nat.not_lt_zero _)⟩
  | m + 1, hm => ⟨fun op w n nm ks hk hs => by
    have ih := s_fmt m omG
    exact s_Fmt0 ⟨op, w, n, nm, ks⟩ ⟨fun op' w' n' nm' ks' hk' hs' => ih.call op' w' n' nm' ks' hk' omG⟩ hk omG (fmB hk omG) (cD hk)⟩
theorem wY (op w n : Int) (nm : ByteArray) (ks : List V.Term) (hk : okT ⟨op, w, n, nm, ks⟩ = true) (hz : sizeT ⟨op, w, n, nm, ks⟩ ≤ 240) :
    CallsV Tryd.prog 12 [.agg [.dat (.i op), .dat (.i w), .dat (.i n), .dat (.str nm), .dat (.seq .terms ks)]] (.dat (.str (m0 (fmtL ⟨op, w, n, nm, ks⟩)))) := (s_fmt 241 (Nat.le_refl _)).call op w n nm ks hk omG
end Vg
