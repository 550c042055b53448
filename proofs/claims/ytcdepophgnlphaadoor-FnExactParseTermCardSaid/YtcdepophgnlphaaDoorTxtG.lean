/- The reference's reader of terms: contract. Condition: texts are not too long. -/
import Derived.Test.YtcdepophgnlphaaDoorTxtF
import Derived.Test.YtcdepophgnlphaaDoorRet
namespace Vg
open Go Go.Proofs
set_option maxRecDepth 100000
set_option maxHeartbeats 40000000
structure IHt (ws : List ByteArray) (f : Nat) : Prop where
  call : 1 ≤ f → f ≤ 240 → ∀ (st : Wds) (d : Int), SufW ws st → d = 242 - (f : Int) → CallsG Tryd.prog 10 [.ptr 0 0, .dat (.i d)] [.box [.dat (.seq .strs ws), .dat (.i (d4 ws st))]] 1
    (fun res B => res = q8 (termS (f - 1) st).1 ∧ B = [.box [.dat (.seq .strs ws), .dat (.i (d4 ws (termS (f - 1) st).2))]])
theorem ih_t {ws : List ByteArray} {f : Nat} (ih : IHt ws f) {st : Wds} {d : Int} (hf : 1 ≤ f) (hf2 : f ≤ 240) (hw : SufW ws st) (hd : d = 242 - (f : Int)) :
    CallsG Tryd.prog 10 [.ptr 0 0, .dat (.i d)] [.box [.dat (.seq .strs ws), .dat (.i (d4 ws st))]] 1
    (fun res B => res = q8 (termS (f - 1) st).1 ∧ B = [.box [.dat (.seq .strs ws), .dat (.i (d4 ws (termS (f - 1) st).2))]]) := ih.call hf hf2 st d hw hd
structure KdI (ws : List ByteArray) (f : Nat) (st : Wds) (acc : List V.Term) (st' : Wds) : Prop where
  eq : ∃ g, r5 st' ≤ g ∧ z7 (termS (f - 1)) (r5 (wq4 st).2) (wq4 st).2 [] = z7 (termS (f - 1)) g st' acc
  len : acc.length + r5 st' ≤ 2097153
  suf : SufW ws st'
theorem frzD {B : List Blk} {t : V.Term} {o w n : Int} {nm : ByteArray} {ks : List V.Term} (h : t = ⟨o, w, n, nm, ks⟩) :
    iA B (q8 t) (.agg [.dat (.int .i64 o), .dat (.int .i64 w), .dat (.int .i64 n), .dat (.str nm), .dat (.seq .terms ks)]) := by
  subst h; exact ⟨rfl, rfl, rfl, rfl, rfl, True.intro⟩
theorem frzN {B : List Blk} {t : V.Term} {o w n : Int} {nm : ByteArray} (h : t = ⟨o, w, n, nm, []⟩) :
    iA B (q8 t) (.agg [.dat (.int .i64 o), .dat (.int .i64 w), .dat (.int .i64 n), .dat (.str nm), .nils]) := by
  subst h; exact ⟨rfl, rfl, rfl, rfl, rfl, True.intro⟩
theorem frzR {b : Blk} {T : Nat} {t : V.Term} {o w n : Int} {nm : ByteArray} {ks : List V.Term} {sh : Bool} (h : t = ⟨o, w, n, nm, ks⟩) :
    iA [b, .row T .terms ks sh] (q8 t) (.agg [.dat (.int .i64 o), .dat (.int .i64 w), .dat (.int .i64 n), .dat (.str nm), .row (0 + 1)]) := by
  subst h; exact ⟨rfl, rfl, rfl, rfl, rfl, True.intro⟩
theorem exB {ws : List ByteArray} {st st' : Wds} {bs : List Blk} (h : st = st') : ∃ bs', (Blk.box [AV.dat (Dat.seq K.strs ws), AV.dat (Dat.int .i64 (d4 ws st'))]) :: bs = Blk.box [AV.dat (Dat.seq K.strs ws), AV.dat (Dat.i (d4 ws st))] :: bs' := ⟨bs, by rw [h]⟩
theorem kH {ws : List ByteArray} {st : Wds} {bs : List Blk} (h : st = none) : ∃ bs', (Blk.box [AV.dat (Dat.seq K.strs ws), AV.dat (Dat.int .i64 (-1))]) :: bs = Blk.box [AV.dat (Dat.seq K.strs ws), AV.dat (Dat.i (d4 ws st))] :: bs' := ⟨bs, by rw [h]; rfl⟩
theorem xH {a : Bs} {c : UInt8} (h : ((m0 a).toList == (⟨#[c]⟩ : ByteArray).toList) = true) : a = [c] := mM (b := [c]) h
theorem ch_n {a : Bs} {c : UInt8} (h : ((m0 a).toList == (⟨#[c]⟩ : ByteArray).toList) = false) : a ≠ [c] := lM (b := [c]) h
section
variable {ws : List ByteArray} {f : Nat} {st : Wds}
theorem tl_f (h : ((m0 (j3 st).1).toList == (⟨#[40]⟩ : ByteArray).toList) = false) (h2 : (x6 (m0 (j3 st).1).data.toList).2 = false) : termS f st = ((x6 (m0 (j3 st).1).data.toList).1, none) := by
  rw [xF (ch_n h)]
  exact congrArg (Prod.mk _) (if_neg (fun q => by rw [show x6 (j3 st).1 = x6 (m0 (j3 st).1).data.toList from rfl, h2] at q; cases q))
theorem tl_t (h : ((m0 (j3 st).1).toList == (⟨#[40]⟩ : ByteArray).toList) = false) (h2 : (x6 (m0 (j3 st).1).data.toList).2 = true) : termS f st = ((x6 (m0 (j3 st).1).data.toList).1, (j3 st).2) := by
  rw [xF (ch_n h)]
  exact congrArg (Prod.mk _) (if_pos h2)
theorem tb_0 {j : Nat} (h : ((m0 (j3 st).1).toList == (⟨#[40]⟩ : ByteArray).toList) = true) (hj : OpI (u6 st) j 0) (hn : ¬ (j : Int) ≤ 21) : termS f st = (⟨0, 0, 0, ByteArray.empty, []⟩, none) := by
  have e := hj.fin hn
  rw [xB (xH h) (.inl e.symm), ← e]
theorem tb_d {j : Nat} {c d : Int} (h : ((m0 (j3 st).1).toList == (⟨#[40]⟩ : ByteArray).toList) = true) (hj : OpI (u6 st) j c) (hn : ¬ (j : Int) ≤ 21) (hd : d = 241 - (f : Int)) (h2 : d > 240) : termS f st = (⟨c, 0, 0, ByteArray.empty, []⟩, none) := by
  rw [hj.fin hn]
  exact xB (xH h) (.inr omG)
theorem nq_y {j : Nat} (hj : OpI (u6 st) j 19) (hn : ¬ (j : Int) ≤ 21) : b8 st = v7 (m8 st) := if_pos (hj.fin hn).symm
theorem nq_n {j : Nat} {c : Int} (hj : OpI (u6 st) j c) (hn : ¬ (j : Int) ≤ 21) (h : ¬ c = 19) : b8 st = (0, m8 st) := if_neg (fun q => h ((hj.fin hn).trans q))
theorem wq_y {j : Nat} {c : Int} (hj : OpI (u6 st) j c) (hn : ¬ (j : Int) ≤ 21) (h : inP c 19 21 = true) : wq4 st = v7 (b8 st).2 := if_pos (by rw [← hj.fin hn]; exact w7.1 h)
theorem wq_n {j : Nat} {c : Int} (hj : OpI (u6 st) j c) (hn : ¬ (j : Int) ≤ 21) (h : inP c 19 21 = false) : wq4 st = (0, (b8 st).2) := if_neg (fun q => by rw [← hj.fin hn] at q; rw [w7.2 q] at h; cases h)
theorem q_yy {j : Nat} {c : Int} (hj : OpI (u6 st) j c) (hn : ¬ (j : Int) ≤ 21) (h1 : c = 19) (h : inP c 19 21 = true) : b8 st = v7 (m8 st) ∧ wq4 st = v7 (v7 (m8 st)).2 := by
  subst h1
  have e := nq_y hj hn
  exact ⟨e, by rw [wq_y hj hn h, e]⟩
theorem q_ny {j : Nat} {c : Int} (hj : OpI (u6 st) j c) (hn : ¬ (j : Int) ≤ 21) (h1 : ¬ c = 19) (h : inP c 19 21 = true) : b8 st = (0, m8 st) ∧ wq4 st = v7 (m8 st) := by
  have e := nq_n hj hn h1
  exact ⟨e, by rw [wq_y hj hn h, e]⟩
theorem q_nn {j : Nat} {c : Int} (hj : OpI (u6 st) j c) (hn : ¬ (j : Int) ≤ 21) (h1 : ¬ c = 19) (h : inP c 19 21 = false) : b8 st = (0, m8 st) ∧ wq4 st = (0, m8 st) := by
  have e := nq_n hj hn h1
  exact ⟨e, by rw [wq_n hj hn h, e]⟩
theorem KdI.zero (hw : SufW ws st) : KdI ws f st [] (wq4 st).2 := by
  have hs := vK hw
  refine ⟨⟨_, Nat.le_refl _, rfl⟩, ?_, hs⟩
  cases h : (wq4 st).2 with
  | none => exact (by decide : 0 + 0 ≤ 2097153)
  | some r => rw [h] at hs; have := hs.le; have := hs.len; show 0 + r.length ≤ _; omega
theorem cty {st' : Wds} {x : ByteArray} (hw : SufW ws st') (h1 : d4 ws st' ≥ 0) (h2 : d4 ws st' < ws.length) (h : x = ws.getD (d4 ws st').toNat K.strs.dflt) (hx : (x.toList == (⟨#[41]⟩ : ByteArray).toList) = true) : ∃ r, st' = some ([41] :: r) := by
  obtain ⟨y, r, rfl, h3, _, _⟩ := nx_c hw omG omG
  have e : x = m0 y := h.trans h3
  rw [e] at hx
  exact ⟨r, by rw [xH hx]⟩
theorem ctn {st' : Wds} {x : ByteArray} (hw : SufW ws st') (h1 : d4 ws st' ≥ 0) (h2 : d4 ws st' < ws.length) (h : x = ws.getD (d4 ws st').toNat K.strs.dflt) (hx : (x.toList == (⟨#[41]⟩ : ByteArray).toList) = false) : ∃ y r, st' = some (y :: r) ∧ y ≠ [41] := by
  obtain ⟨y, r, rfl, h3, _, _⟩ := nx_c hw omG omG
  have e : x = m0 y := h.trans h3
  rw [e] at hx
  exact ⟨y, r, rfl, ch_n hx⟩
theorem ct0 {st' : Wds} (hw : SufW ws st') (h : ¬ (d4 ws st' ≥ 0) ∨ ¬ d4 ws st' < ws.length) : st' = none ∨ st' = some [] := by
  by_cases h1 : d4 ws st' < 0
  · exact .inl (nx_a hw h1)
  · exact .inr (nx_b hw h1 omG)
theorem KdI.step {acc : List V.Term} {st' : Wds} (h : KdI ws f st acc st') (hc : ∃ y r, st' = some (y :: r) ∧ y ≠ [41]) : KdI ws f st (acc ++ [(termS (f - 1) st').1]) (termS (f - 1) st').2 ∧ r5 (termS (f - 1) st').2 < r5 st' := by
  obtain ⟨y, r, rfl, hy⟩ := hc
  obtain ⟨g, hg, he⟩ := h.eq
  have hl := mT (f - 1) (some (y :: r))
  have h1 : r5 (some (y :: r)) = r.length + 1 := rfl
  have hlen := h.len
  have hs := SufW.term (f - 1) _ h.suf
  cases g with
  | zero => omega
  | succ g =>
    rw [z7, if_neg hy] at he
    exact ⟨⟨⟨g, by omega, he⟩, by rw [List.length_append, List.length_cons, List.length_nil]; omega, hs⟩, by omega⟩
structure NoKid (st' : Wds) : Prop where
  h : st' = none ∨ st' = some [] ∨ ∃ r, st' = some ([41] :: r)
theorem KdI.fin {acc : List V.Term} {st' : Wds} (h : KdI ws f st acc st') (hn : NoKid st') : z7 (termS (f - 1)) (r5 (wq4 st).2) (wq4 st).2 [] = (acc, st') := by
  obtain ⟨g, hg, he⟩ := h.eq
  rw [he]
  rcases hn.h with rfl | rfl | ⟨r, rfl⟩
  · cases g <;> rfl
  · cases g <;> rfl
  · cases g with
    | zero => rfl
    | succ g => rw [z7, if_pos rfl]
theorem tg (h : ((m0 (j3 st).1).toList == (⟨#[40]⟩ : ByteArray).toList) = true) (h0 : u1 (u6 st) ≠ 0) (hf : 1 ≤ f) {acc : List V.Term} {st' : Wds} (hx : KdI ws f st acc st') (hn : NoKid st') : termS f st = j9 (u1 (u6 st)) (wq4 st).1 (b8 st).1 (acc, st') := by
  obtain ⟨g, rfl⟩ : ∃ g, f = g + 1 := ⟨f - 1, by omega⟩
  rw [oI (xH h) h0, ← hx.fin hn]; rfl
theorem op_ne {wd : Bs} {j : Nat} {c : Int} (hj : OpI wd j c) (hn : ¬ (j : Int) ≤ 21) (h : ¬ c = 0) : u1 wd ≠ 0 := fun q => h ((hj.fin hn).trans q)
section
variable {acc : List V.Term} {st' : Wds} {op w n : Int}
theorem nk1 (hx : KdI ws f st acc st') (h : ¬ d4 ws st' ≥ 0) : NoKid st' := ⟨(ct0 hx.suf (.inl h)).imp id .inl⟩
theorem nk2 (hx : KdI ws f st acc st') (h : ¬ d4 ws st' < ws.length) : NoKid st' := ⟨(ct0 hx.suf (.inr h)).imp id .inl⟩
theorem nk3 (hx : KdI ws f st acc st') (h1 : d4 ws st' ≥ 0) (h2 : d4 ws st' < ws.length) (h : ((ws.getD (d4 ws st').toNat K.strs.dflt : ByteArray).toList == (⟨#[41]⟩ : ByteArray).toList) = true) : NoKid st' := ⟨.inr (.inr (cty hx.suf h1 h2 rfl h))⟩
theorem kd_s (hx : KdI ws f st acc st') (h1 : d4 ws st' ≥ 0) (h2 : d4 ws st' < ws.length) (h : ((ws.getD (d4 ws st').toNat K.strs.dflt : ByteArray).toList == (⟨#[41]⟩ : ByteArray).toList) = false) : KdI ws f st (acc ++ [⟨(termS (f - 1) st').1.op, (termS (f - 1) st').1.w, (termS (f - 1) st').1.n, (termS (f - 1) st').1.name, (termS (f - 1) st').1.kids⟩]) (termS (f - 1) st').2 ∧ r5 (termS (f - 1) st').2 < r5 st' := by
  rw [V.Term.eta]
  exact hx.step (ctn hx.suf h1 h2 rfl h)
theorem fa1 (E : termS f st = j9 op w n (acc, st')) (h : ((m0 (j3 st').1).toList == (⟨#[41]⟩ : ByteArray).toList) = false) : termS f st = (⟨op, w, n, ByteArray.empty, acc⟩, none) := E.trans (if_pos (.inl (ch_n h)))
theorem fa2 (E : termS f st = j9 op w n (acc, st')) (h : (acc.length : Int) = 0) : termS f st = (⟨op, w, n, ByteArray.empty, acc⟩, none) := E.trans (if_pos (.inr (List.eq_nil_of_length_eq_zero (show acc.length = 0 by omega))))
theorem fbb (E : termS f st = j9 op w n (acc, st')) (h : ((m0 (j3 st').1).toList == (⟨#[41]⟩ : ByteArray).toList) = true) (h2 : ¬ (acc.length : Int) = 0) : termS f st = (⟨op, sW op w acc, n, ByteArray.empty, acc⟩, (j3 st').2) :=
  E.trans (if_neg (fun q => q.elim (fun q => q (xH h)) (fun q => h2 (by rw [show acc = [] from q]; rfl))))
theorem fbs {w' : Int} (E : termS f st = j9 op w n (acc, st')) (h : ((m0 (j3 st').1).toList == (⟨#[41]⟩ : ByteArray).toList) = true) (h2 : ¬ (acc.length : Int) = 0) (hs : sW op w acc = w') : (termS f st).1 = ⟨op, w', n, ByteArray.empty, acc⟩ := by
  rw [fbb E h h2, hs]
theorem sw1 (h : inP op 14 16 = true) : sW op w acc = 1 := if_pos (w7.1 h)
theorem jD {n lo hi : Int} (h : inP n lo hi = false) : ¬ (lo ≤ n ∧ n ≤ hi) := fun q => by rw [w7.2 q] at h; cases h
theorem sw2 (h : inP op 14 16 = false) (h2 : inP op 1 13 = true) : sW op w acc = (acc.getD (Int.toNat 0) K.terms.dflt).w := by
  unfold sW; rw [if_neg (jD h), if_pos (w7.1 h2)]; rfl
theorem wl (hx : KdI ws f st acc st') (h : ¬ (acc.length : Int) = 0) : (IntKind.i64.wrap ((acc.length : Int) - 1)).toNat = acc.length - 1 ∧ IntKind.i64.wrap ((acc.length : Int) - 1) = ((acc.length - 1 : Nat) : Int) := by
  have := hx.len
  rw [g4 omG omG]; omega
theorem sw3 (hx : KdI ws f st acc st') (hl : ¬ (acc.length : Int) = 0) (h : inP op 14 16 = false) (h2 : inP op 1 13 = false) (h3 : op = 17) : sW op w acc = (acc.getD (IntKind.i64.wrap ((acc.length : Int) - 1)).toNat K.terms.dflt).w := by
  unfold sW; rw [if_neg (jD h), if_neg (jD h2), if_pos h3, (wl hx hl).1]
theorem sw4 (hx : KdI ws f st acc st') (hl : ¬ (acc.length : Int) = 0) (h : inP op 14 16 = false) (h2 : inP op 1 13 = false) (h3 : ¬ op = 17) (h4 : op = 18) : sW op w acc = IntKind.i64.wrap ((acc.getD (Int.toNat 0) K.terms.dflt).w + (acc.getD (IntKind.i64.wrap ((acc.length : Int) - 1)).toNat K.terms.dflt).w) := by
  unfold sW; rw [if_neg (jD h), if_neg (jD h2), if_neg h3, if_pos h4, (wl hx hl).1]; first | done | rfl
theorem sw5 (h : inP op 14 16 = false) (h2 : inP op 1 13 = false) (h3 : ¬ op = 17) (h4 : ¬ op = 18) : sW op w acc = w := by
  unfold sW; rw [if_neg (jD h), if_neg (jD h2), if_neg h3, if_neg h4]
theorem bd24 {a b : Nat} (ha : a ≤ 2097153) (hb : b ≤ 1) : (a + b) * 64 ≤ 140737488355328 := by omega
theorem wd1w {d : Int} (hf : f ≤ 240) (hd : d = 241 - (f : Int)) : IntKind.i64.wrap (d + 1) = 242 - (f : Int) := by rw [g4 omG omG]; omega
theorem kd_l {acc : List V.Term} {st' : Wds} (hx : KdI ws f st acc st') : acc.length ≤ 2097153 := by have := hx.len; omega
end
end
theorem uQ (ws : List ByteArray) (f : Nat) (st : Wds) (d : Int) (ih : IHt ws f) (hw : SufW ws st) (hf2 : f ≤ 240) (hd : d = 241 - (f : Int)) : CallsG Tryd.prog 10 [.ptr 0 0, .dat (.i d)] [.box [.dat (.seq .strs ws), .dat (.i (d4 ws st))]] 1 (fun res B => iA B (q8 (termS f st).1) res ∧ ∃ bs, B = .box [.dat (.seq .strs ws), .dat (.i (d4 ws (termS f st).2))] :: bs) := by
  refine oG Tryd.func10 ⟨?_⟩
  repeat' (first | ((with_reducible refine fun (K1 : KT) hK => ?_); (with_reducible refine mX ?_ ?_); exact rfl; conv => whnf) | ((with_reducible refine Alt.l ?_); conv => whnf) | ((with_reducible refine fun (K1 : KT) hK => ?_); conv => whnf) | ((with_reducible show K1 _ _); subst hK; conv => whnf) | (with_reducible exact rfl) | ((with_reducible refine sp_T ?_); conv => whnf) | ((with_reducible refine sp_F ?_); conv => whnf) | ((with_reducible refine sp_T' ?_); conv => whnf) | ((with_reducible refine sp_F' ?_); conv => whnf) | ((with_reducible refine sp_d (fun h => ?_) (fun h => ?_)) <;> first | (with_reducible contradiction) | (subst h; conv => whnf) | (conv => whnf)) | ((with_reducible refine sp_e (fun h => ?_) (fun h => ?_)) <;> first | (with_reducible contradiction) | (subst h; conv => whnf) | (conv => whnf)) | ((with_reducible refine sp_e' (fun h => ?_) (fun h => ?_)) <;> first | (with_reducible contradiction) | (subst h; conv => whnf) | (conv => whnf)) | ((with_reducible refine sp_nb (fun h => ?_) (fun h => ?_)) <;> first | (exact noTF h asmR) | (exact noTF asmR h) | (conv => whnf)) | ((with_reducible refine sp_nb' (fun h => ?_) (fun h => ?_)) <;> first | (exact noTF h asmR) | (exact noTF asmR h) | (conv => whnf)) | ((with_reducible refine sp_b (fun h => ?_) (fun h => ?_)) <;> first | (exact noTF h asmR) | (exact noTF asmR h) | (conv => whnf)) | (refine ⟨(rfl : d8 _ = true), rfl, ?_⟩; conv => whnf) | (with_reducible refine bnd2 ?_ ?_) | (with_reducible refine bndN ?_ ?_) | refine g5 ⟨?_⟩ ⟨?_⟩ | (refine Exists.intro ({x : List V.Term × Wds // KdI ws f st x.1 x.2}) (Exists.intro (fun ⟨⟨acc, st'⟩, hx⟩ => x5 Tryd.f10.ntmps [(0, .ptr 900000 0), (1, .dat (.i d)), (4, .ptr 4 0), (8, .ptr 8 0), (45, .dat (.bool false))] [(900000, .box [.dat (.seq .strs ws), .dat (.i (d4 ws st'))]), (4, .box [.dat (.i 0), .dat (.i 0), .dat (.i 0), .dat (.str ⟨#[]⟩), .nils]), (8, .box [.dat (.i (u1 (u6 st))), .dat (.i (wq4 st).1), .dat (.i (b8 st).1), .dat (.str ⟨#[]⟩), .row 99]), (99, .row 24 .terms acc false)]) (Exists.intro (fun ⟨⟨acc, st'⟩, hx⟩ => r5 st') (Exists.intro ⟨⟨[], (wq4 st).2⟩, ?_⟩ (And.intro (SubP.sub (σ := [(900000, some 900000), (4, some 4), (8, some 8), (99, none)]) ⟨⟨rfl, rfl, rfl⟩, ⟨⟨rfl, rfl⟩, j0 ?_, ⟨rfl, rfl⟩, ⟨rfl, rfl⟩, j0 ?_, trivial⟩, ⟨⟨g0 ?_, g0 ?_, trivial⟩, ⟨g0 ?_, g0 ?_, g0 ?_, g0 ?_, trivial, trivial⟩, ⟨g0 ?_, g0 ?_, g0 ?_, g0 ?_, rfl, trivial⟩, ?_, trivial⟩⟩) (fun ⟨⟨acc, st'⟩, hx⟩ => ?_))))); rotate_right; conv => whnf) | (refine Exists.intro (⟨⟨?_, ?_⟩, ?_⟩ : {x : List V.Term × Wds // KdI ws f st x.1 x.2}) (And.intro ?_ (SubP.sub (σ := [(900000, some 900000), (4, some 4), (8, some 8), (99, some 99)]) ⟨⟨rfl, rfl, rfl⟩, ⟨⟨rfl, rfl⟩, j0 ?_, ⟨rfl, rfl⟩, ⟨rfl, rfl⟩, j0 ?_, trivial⟩, ⟨⟨g0 ?_, g0 ?_, trivial⟩, ⟨g0 ?_, g0 ?_, g0 ?_, g0 ?_, trivial, trivial⟩, ⟨g0 ?_, g0 ?_, g0 ?_, g0 ?_, rfl, trivial⟩, ⟨⟨rfl, rfl⟩, ?_⟩, trivial⟩⟩))) | (refine Exists.intro ({x : Nat × Int // OpI (u6 st) x.1 x.2}) (Exists.intro (fun ⟨⟨j, c⟩, hj⟩ => x5 Tryd.f10.ntmps [(0, .ptr 900000 0), (1, .dat (.i d)), (4, .ptr 4 0), (8, .ptr 8 0), (9, .dat (.str (m0 (u6 st)))), (10, .dat (.i j))] [(900000, .box [.dat (.seq .strs ws), .dat (.i (d4 ws (m8 st)))]), (4, .box [.dat (.i 0), .dat (.i 0), .dat (.i 0), .dat (.str ⟨#[]⟩), .nils]), (8, .box [.dat (.i c), .dat (.i 0), .dat (.i 0), .dat (.str ⟨#[]⟩), .nils])]) (Exists.intro (fun ⟨⟨j, c⟩, hj⟩ => 22 - j) (Exists.intro ⟨⟨1, 0⟩, OpI.zero _⟩ (And.intro (SubP.sub (σ := [(900000, some 900000), (4, some 4), (8, some 8)]) ⟨⟨rfl, rfl, rfl⟩, ⟨⟨rfl, rfl⟩, j0 ?_, ⟨rfl, rfl⟩, ⟨rfl, rfl⟩, j0 ?_, j0 ?_, trivial⟩, ⟨⟨g0 ?_, g0 ?_, trivial⟩, ⟨g0 ?_, g0 ?_, g0 ?_, g0 ?_, trivial, trivial⟩, ⟨g0 ?_, g0 ?_, g0 ?_, g0 ?_, trivial, trivial⟩, trivial⟩⟩) (fun ⟨⟨j, c⟩, hj⟩ => ?_))))); rotate_right; conv => whnf) | (refine Exists.intro (⟨⟨j + 1, ?_⟩, ?_⟩ : {x : Nat × Int // OpI (u6 st) x.1 x.2}) (And.intro ?_ (SubP.sub (σ := [(900000, some 900000), (4, some 4), (8, some 8)]) ⟨⟨rfl, rfl, rfl⟩, ⟨⟨rfl, rfl⟩, j0 ?_, ⟨rfl, rfl⟩, ⟨rfl, rfl⟩, j0 ?_, j0 ?_, trivial⟩, ⟨⟨g0 ?_, g0 ?_, trivial⟩, ⟨g0 ?_, g0 ?_, g0 ?_, g0 ?_, trivial, trivial⟩, ⟨g0 ?_, g0 ?_, g0 ?_, g0 ?_, trivial, trivial⟩, trivial⟩⟩))) | ((with_reducible refine d6 (g := 20) ?_); refine ⟨_, _, sQ (hw := ?_) .., zV ?_⟩; rotate_right; conv => whnf) | ((with_reducible first | refine p3 (g := 21) ?_ | show Exists _); refine ⟨_, uY (hs := ?_) .., rfl, ?_⟩; rotate_right; conv => whnf) | ((with_reducible first | refine p3 (g := 22) ?_ | show Exists _); refine ⟨_, tQ (h1 := ?_) (h2 := ?_) .., rfl, ?_⟩; rotate_right; conv => whnf) | ((with_reducible refine d6 (g := 23) ?_); refine ⟨_, _, vY (hw := ?_) .., zV ?_⟩; rotate_right; conv => whnf) | ((with_reducible first | refine p3 (g := 24) ?_ | show Exists _); refine ⟨_, vC .., rfl, ?_⟩; rotate_right; conv => whnf) | ((with_reducible refine d6 (g := 10) ?_); refine ⟨_, _, ih_t (ih := by assumption) (hf := ?_) (hf2 := ?_) (hw := ?_) (hd := ?_) .., zV ?_⟩; rotate_right; conv => whnf) | ((with_reducible show t6 _ _ _ _ _ _); conv => whnf) | (intro h; conv => whnf))
  all_goals repeat clear hK K1
  all_goals first | ((with_reducible show iA [_] _ _); first | exact frzD ((congrArg Prod.fst (tl_f asmR asmR)).trans (V.Term.eta _).symm) | exact frzD ((congrArg Prod.fst (tl_t asmR asmR)).trans (V.Term.eta _).symm) | exact frzN (congrArg Prod.fst (tb_0 asmR hj asmR)) | exact frzN (congrArg Prod.fst (tb_d asmR hj asmR hd asmR))) | ((with_reducible show iA [_, _] _ _); obtain ⟨E⟩ : Nonempty (termS f st = j9 (u1 (u6 st)) (wq4 st).1 (b8 st).1 (acc, st')) := ⟨tg asmR (op_ne hj asmR asmR) omG hx (by first | exact nk1 hx asmR | exact nk2 hx asmR | exact nk3 hx asmR asmR asmR)⟩; first | exact frzR (fbs E asmR asmR (by first | exact sw1 asmR | exact sw2 asmR asmR | exact sw3 (show KdI ws f st acc st' from hx) asmR asmR asmR asmR | exact sw4 (show KdI ws f st acc st' from hx) asmR asmR asmR asmR asmR | exact sw5 asmR asmR asmR asmR)) | exact frzR (congrArg Prod.fst (fa1 E asmR)) | exact frzR (congrArg Prod.fst (fa2 E asmR))) | ((with_reducible show ∃ bs, [_] = _ :: bs); first | exact kH (congrArg Prod.snd (tl_f asmR asmR)) | exact exB (congrArg Prod.snd (tl_t asmR asmR)) | exact kH (congrArg Prod.snd (tb_0 asmR hj asmR)) | exact kH (congrArg Prod.snd (tb_d asmR hj asmR hd asmR))) | ((with_reducible show ∃ bs, [_, _] = _ :: bs); obtain ⟨E⟩ : Nonempty (termS f st = j9 (u1 (u6 st)) (wq4 st).1 (b8 st).1 (acc, st')) := ⟨tg asmR (op_ne hj asmR asmR) omG hx (by first | exact nk1 hx asmR | exact nk2 hx asmR | exact nk3 hx asmR asmR asmR)⟩; first | exact exB (congrArg Prod.snd (fbb E asmR asmR)) | exact kH (congrArg Prod.snd (fa1 E asmR)) | exact kH (congrArg Prod.snd (fa2 E asmR))) | (with_reducible assumption) | ((with_reducible show OpI _ _ _); first | exact hj.hit asmR asmR | exact hj.miss asmR asmR) | ((with_reducible show KdI _ _ _ _ _); first | exact KdI.zero hw | exact (kd_s hx asmR asmR asmR).1) | ((with_reducible show SufW _ _); first | exact hw | exact hw.nx | exact hw.nx.nx | exact SufW.int hw.nx.nx | exact hx.suf) | ((with_reducible show Dat.int _ _ = Dat.int _ _); refine congrArg (Dat.int .i64) ?_; first | exact absurd (show inP 19 19 21 = false from asmR) (by decide) | exact (hj.fin asmR).symm | exact congrArg Prod.fst (q_yy hj asmR rfl asmR).1 | exact congrArg Prod.fst (q_yy hj asmR rfl asmR).2 | exact congrArg Prod.fst (q_ny hj asmR asmR asmR).1 | exact congrArg Prod.fst (q_ny hj asmR asmR asmR).2 | exact congrArg Prod.fst (q_nn hj asmR asmR asmR).1 | exact congrArg Prod.fst (q_nn hj asmR asmR asmR).2 | exact congrArg (fun x => d4 ws x.2) (q_yy hj asmR rfl asmR).2 | exact congrArg (fun x => d4 ws x.2) (q_ny hj asmR asmR asmR).2 | exact congrArg (fun x => d4 ws x.2) (q_nn hj asmR asmR asmR).2 | rfl | (rw [g4 omG omG]; rfl)) | ((with_reducible show Dat.bool _ = Dat.bool _); refine congrArg Dat.bool ?_; exact (decide_eq_false asmR).symm) | exact wd1w hf2 hd | ((with_reducible show (_ : Int) ≤ _); first | omega | (have q := hj.lo; dsimp only at q; omega) | (rw [(wl (show KdI ws f st acc st' from hx) asmR).2]; omega)) | ((with_reducible show (_ : Int) < _); first | omega | (rw [(wl (show KdI ws f st acc st' from hx) asmR).2]; omega)) | ((with_reducible show (_ : Nat) < _); first | exact (kd_s hx asmR asmR asmR).2 | (show 0 < acc.length; omega) | (rw [(wl (show KdI ws f st acc st' from hx) asmR).1]; omega) | (dsimp only; omega)) | exact dM hw | exact bdM (kd_l hx) (show 1 ≤ 1048577 by decide) | exact bd24 (kd_l hx) (Nat.le_refl 1) | ((with_reducible show (_ : Nat) ≤ _); omega) | exact rfl | skip
theorem rQ (ws : List ByteArray) : ∀ f : Nat, IHt ws f
  | 0 => ⟨fun h => absurd h (by decide)⟩
  | f + 1 => ⟨fun _ hf2 st d hw hd => (uQ ws f st d (rQ ws f) hw omG omG).toD fun _ _ h => h⟩
theorem qY (ws : List ByteArray) (hw : SufW ws (some (ws.map (·.data.toList)))) : CallsG Tryd.prog 10 [.ptr 0 0, .dat (.i 1)] [.box [.dat (.seq .strs ws), .dat (.i 0)]] 1
    (fun res B => res = q8 (termS 240 (some (ws.map (·.data.toList)))).1 ∧ B = [.box [.dat (.seq .strs ws), .dat (.i (d4 ws (termS 240 (some (ws.map (·.data.toList)))).2))]]) := by
  have e : d4 ws (some (ws.map (·.data.toList))) = 0 := by rw [at_s, List.length_map]; omega
  have h := (uQ ws 240 (some (ws.map (·.data.toList))) 1 (rQ ws 240) hw (Nat.le_refl _) (by decide)).toD fun _ _ h => h
  rwa [e] at h
end Vg
