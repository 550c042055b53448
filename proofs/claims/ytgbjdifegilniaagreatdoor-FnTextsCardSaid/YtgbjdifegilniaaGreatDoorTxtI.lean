/- The program's reader of terms: contracts of its small steps. Condition: texts are not too long. -/
import Derived.Test.YtgbjdifegilniaaGreatDoorTxtF
import Derived.Test.YtgbjdifegilniaaGreatDoorTermI
import Derived.Test.YtgbjdifegilniaaGreatDoorRet
import Derived.Test.YtgbjdifegilniaaGreatDoorParI
namespace Vg
open Go Go.Proofs
set_option maxRecDepth 100000
set_option maxHeartbeats 40000000
structure SufR (s : ByteArray) (l : Bs) : Prop where
  suf : l <:+ s.data.toList
  sz : s.size ≤ 1048576
def u1 (s : ByteArray) (l : Bs) : Int := (s.size : Int) - l.length
section
variable {s : ByteArray} {l : Bs}
theorem SufR.le (h : SufR s l) : l.length ≤ s.size := h.suf.length_le
theorem SufR.tl {c : UInt8} (h : SufR s (c :: l)) : SufR s l := ⟨(List.suffix_cons c l).trans h.suf, h.sz⟩
theorem ps_b (h : SufR s l) : 0 ≤ u1 s l ∧ u1 s l ≤ s.size := by have := h.le; unfold u1; omega
theorem hO (h : SufR s l) (h1 : ¬ u1 s l < s.size) : l = [] := by
  have := h.le; unfold u1 at h1
  exact List.eq_nil_of_length_eq_zero omG
theorem wK (h : SufR s l) (h1 : u1 s l < s.size) : ∃ c r, l = c :: r ∧ s.data.toList.getD (u1 s l).toNat 0 = c ∧ SufR s r ∧ IntKind.i64.wrap (u1 s l + 1) = u1 s r := by
  have hl : s.data.toList.length = s.size := rfl
  have hb := h.sz
  cases l with
  | nil => unfold u1 at h1; rw [List.length_nil] at h1; omega
  | cons c r =>
    obtain ⟨p, hp⟩ := h.suf
    have hpl : p.length + (r.length + 1) = s.size := by have := congrArg List.length hp; rwa [List.length_append, List.length_cons] at this
    have e : u1 s (c :: r) = p.length := by unfold u1; rw [List.length_cons]; push_cast; omega
    refine ⟨c, r, rfl, ?_, h.tl, ?_⟩
    · rw [e, Int.toNat_natCast, ← hp, List.getD_eq_getElem?_getD, List.getElem?_append_right (Nat.le_refl _), Nat.sub_self]; rfl
    · rw [e, z1 omG omG]; unfold u1; omega
theorem SufR.take {c : UInt8} (h : SufR s l) : SufR s (takeR c l).2 := by
  cases l with
  | nil => exact h
  | cons x r =>
    rw [takeR]
    split
    · exact h.tl
    · exact h
theorem SufR.tok : ∀ {l : Bs}, SufR s l → SufR s (u0 l).2
  | [], h => h
  | c :: l, h => by
    rw [u0]
    split
    · exact h
    · exact SufR.tok h.tl
theorem ch_i {c x : UInt8} (h : (x.toNat : Int) = c.toNat) : x = c := by
  have : x.toNat = c.toNat := by omega
  exact UInt8.toNat_inj.1 this
theorem tk_y {c : UInt8} (h : SufR s l) (h1 : u1 s l < s.size) (h2 : ((s.data.toList.getD (u1 s l).toNat 0).toNat : Int) = c.toNat) : (takeR c l).1 = true ∧ IntKind.i64.wrap (u1 s l + 1) = u1 s (takeR c l).2 := by
  obtain ⟨x, r, rfl, h3, _, h5⟩ := wK h h1
  rw [h3] at h2
  rw [takeR, if_pos (ch_i h2)]
  exact ⟨rfl, h5⟩
theorem tk_n {c : UInt8} (h : SufR s l) (h1 : u1 s l < s.size) (h2 : ¬ ((s.data.toList.getD (u1 s l).toNat 0).toNat : Int) = c.toNat) : takeR c l = (false, l) := by
  obtain ⟨x, r, rfl, h3, _, h5⟩ := wK h h1
  rw [h3] at h2
  rw [takeR, if_neg (fun e => h2 (by rw [e]))]
theorem tk_e {c : UInt8} (h : SufR s l) (h1 : ¬ u1 s l < s.size) : takeR c l = (false, l) := by rw [hO h h1]; rfl
end
section
variable {s : ByteArray} {l : Bs} {c : UInt8} {n : Int}
theorem tk1 (h : (takeR c l).1 = true ∧ IntKind.i64.wrap (u1 s l + 1) = u1 s (takeR c l).2) : [Blk.box [AV.dat (Dat.str s), AV.dat (Dat.int .i64 (IntKind.i64.wrap (u1 s l + 1))), AV.dat (Dat.int .i64 n)]] = [Blk.box [AV.dat (Dat.str s), AV.dat (Dat.i (u1 s (takeR c l).2)), AV.dat (Dat.i n)]] := by rw [h.2]
theorem tk2 (h : (takeR c l).1 = true ∧ IntKind.i64.wrap (u1 s l + 1) = u1 s (takeR c l).2) : AV.dat (Dat.bool true) = AV.dat (Dat.bool (takeR c l).1) := by rw [h.1]
theorem tk3 (h : takeR c l = (false, l)) : [Blk.box [AV.dat (Dat.str s), AV.dat (Dat.int .i64 (u1 s l)), AV.dat (Dat.int .i64 n)]] = [Blk.box [AV.dat (Dat.str s), AV.dat (Dat.i (u1 s (takeR c l).2)), AV.dat (Dat.i n)]] := by rw [h]
theorem tk4 (h : takeR c l = (false, l)) : AV.dat (Dat.bool false) = AV.dat (Dat.bool (takeR c l).1) := by rw [h]
end
theorem nP (c : UInt8) (s : ByteArray) (l : Bs) (n : Int) (hr : SufR s l) : CallsG Tryz.prog 64 [.ptr 0 0, .dat (.int .u8 (c.toNat : Int))] [.box [.dat (.str s), .dat (.i (u1 s l)), .dat (.i n)]] 1 (fun res B => res = .dat (.bool (takeR c l).1) ∧ B = [.box [.dat (.str s), .dat (.i (u1 s (takeR c l).2)), .dat (.i n)]]) := by
  refine oG Tryz.func64 ⟨?_⟩
  repeat' (first | ((with_reducible refine fun (K1 : KT) hK => ?_); (with_reducible refine j5 ?_ ?_); exact rfl; conv => whnf) | ((with_reducible refine Alt.l ?_); conv => whnf) | ((with_reducible refine fun (K1 : KT) hK => ?_); conv => whnf) | ((with_reducible show K1 _ _); subst hK; conv => whnf) | (with_reducible exact rfl) | ((with_reducible refine a8 ?_); conv => whnf) | ((with_reducible refine tB ?_); conv => whnf) | ((with_reducible refine d7 (fun h => ?_) (fun h => ?_)) <;> first | (with_reducible contradiction) | (subst h; conv => whnf) | (conv => whnf)) | ((with_reducible refine uA (fun h => ?_) (fun h => ?_)) <;> first | (with_reducible contradiction) | (subst h; conv => whnf) | (conv => whnf)) | (refine ⟨(rfl : d4 _ = true), rfl, ?_⟩; conv => whnf) | (with_reducible refine q8 ?_ ?_) | refine p3 ⟨?_⟩ ⟨?_⟩ | ((with_reducible show d3 _ _ _ _ _ _); conv => whnf) | (intro h; conv => whnf))
  all_goals repeat clear hK K1
  all_goals first | exact tk1 (tk_y hr asmR asmR) | exact tk2 (tk_y hr asmR asmR) | exact tk3 (tk_n hr asmR asmR) | exact tk4 (tk_n hr asmR asmR) | exact tk3 (tk_e hr asmR) | exact tk4 (tk_e hr asmR) | exact (ps_b hr).1 | (with_reducible assumption) | skip
theorem yX (s : ByteArray) (l : Bs) (n : Int) (hr : SufR s l) : CallsG Tryz.prog 64 [.ptr 0 0, .dat (.int .u8 32)] [.box [.dat (.str s), .dat (.i (u1 s l)), .dat (.i n)]] 1
    (fun res B => res = .dat (.bool (takeR 32 l).1) ∧ B = [.box [.dat (.str s), .dat (.i (u1 s (takeR 32 l).2)), .dat (.i n)]]) := nP 32 s l n hr
theorem qdm (s : ByteArray) (l : Bs) (n : Int) (hr : SufR s l) : CallsG Tryz.prog 64 [.ptr 0 0, .dat (.int .u8 40)] [.box [.dat (.str s), .dat (.i (u1 s l)), .dat (.i n)]] 1
    (fun res B => res = .dat (.bool (takeR 40 l).1) ∧ B = [.box [.dat (.str s), .dat (.i (u1 s (takeR 40 l).2)), .dat (.i n)]]) := nP 40 s l n hr
theorem qdl (s : ByteArray) (l : Bs) (n : Int) (hr : SufR s l) : CallsG Tryz.prog 64 [.ptr 0 0, .dat (.int .u8 41)] [.box [.dat (.str s), .dat (.i (u1 s l)), .dat (.i n)]] 1
    (fun res B => res = .dat (.bool (takeR 41 l).1) ∧ B = [.box [.dat (.str s), .dat (.i (u1 s (takeR 41 l).2)), .dat (.i n)]]) := nP 41 s l n hr
/-! ### a token -/
structure TkI (s : ByteArray) (l l' : Bs) : Prop where
  suf : SufR s l'
  eq : ∃ a, l = a ++ l' ∧ ∀ c ∈ a, g9 c = false
theorem TkI.zero {s : ByteArray} {l : Bs} (h : SufR s l) : TkI s l l := ⟨h, [], rfl, fun _ h => (nomatch h)⟩
theorem mS : ∀ {a l : Bs}, (∀ c ∈ a, g9 c = false) → u0 (a ++ l) = (a ++ (u0 l).1, (u0 l).2)
  | [], l, _ => rfl
  | c :: a, l, h => by
    rw [List.cons_append, u0, if_neg (by rw [h c (List.mem_cons_self ..)]; exact Bool.false_ne_true), mS (a := a) fun x hx => h x (List.mem_cons_of_mem _ hx)]; rfl
section
variable {s : ByteArray} {l l' : Bs}
theorem TkI.step (h : TkI s l l') (h1 : u1 s l' < s.size) (h32 : ¬ ((s.data.toList.getD (u1 s l').toNat 0).toNat : Int) = 32) (h40 : ¬ ((s.data.toList.getD (u1 s l').toNat 0).toNat : Int) = 40) (h41 : ¬ ((s.data.toList.getD (u1 s l').toNat 0).toNat : Int) = 41) :
    TkI s l l'.tail ∧ IntKind.i64.wrap (u1 s l' + 1) = u1 s l'.tail ∧ l'.tail.length < l'.length := by
  obtain ⟨c, r, rfl, h3, h4, h5⟩ := wK h.suf h1
  rw [h3] at h32 h40 h41
  obtain ⟨a, h6, h7⟩ := h.eq
  refine ⟨⟨h4, a ++ [c], by rw [List.append_assoc]; exact h6, fun x hx => ?_⟩, h5, Nat.lt_succ_self _⟩
  rw [List.mem_append, List.mem_singleton] at hx
  rcases hx with hx | rfl
  · exact h7 x hx
  · exact isD_n h40 h41 h32
theorem TkI.fin (h : TkI s l l') (hd : u0 l' = ([], l')) : u0 l = (l.take (l.length - l'.length), l') := by
  obtain ⟨a, h6, h7⟩ := h.eq
  subst h6
  rw [mS h7, hd, List.append_nil, List.length_append, Nat.add_sub_cancel, List.take_left]
theorem tokR_d {c : UInt8} {r : Bs} (h : g9 c = true) : u0 (c :: r) = ([], c :: r) := by rw [u0, if_pos h]
theorem sC (h : TkI s l l') (h1 : u1 s l' < s.size) (hc : g9 (s.data.toList.getD (u1 s l').toNat 0) = true) : u0 l' = ([], l') := by
  obtain ⟨c, r, rfl, h3, h4, h5⟩ := wK h.suf h1
  rw [h3] at hc
  exact tokR_d hc
theorem iN (h : TkI s l l') (h1 : ¬ u1 s l' < s.size) : u0 l' = ([], l') := by rw [hO h.suf h1]; rfl
structure TkE (s : ByteArray) (l l' : Bs) : Prop where
  h : u0 l' = ([], l')
theorem jB (h : TkI s l l') (hr : SufR s l) (he : TkE s l l') : s.extract (u1 s l).toNat (u1 s l').toNat = r0 (u0 l).1 ∧ u1 s l' = u1 s (u0 l).2 ∧ u1 s l ≤ u1 s l' := by
  have e := h.fin he.h
  have h1 := hr.le
  have h2 := h.suf.le
  have hlen : l'.length ≤ l.length := by obtain ⟨a, h6, _⟩ := h.eq; rw [h6, List.length_append]; omega
  rw [e]
  refine ⟨?_, rfl, by unfold u1; omega⟩
  have a1 : (u1 s l).toNat = s.size - l.length := by unfold u1; omega
  have a2 : (u1 s l').toNat = s.size - l'.length := by unfold u1; omega
  rw [a1, a2]
  apply ByteArray.ext
  apply Array.ext'
  rw [ByteArray.data_extract, Array.toList_extract, List.extract_eq_take_drop]
  have hd : s.data.toList.drop (s.size - l.length) = l := by
    obtain ⟨p, hp⟩ := hr.suf
    have hl : s.data.toList.length = s.size := rfl
    rw [← hp, List.length_append] at hl
    rw [← hp, show s.size - l.length = p.length by omega, List.drop_left]
  rw [hd, show s.size - l'.length - (s.size - l.length) = l.length - l'.length by omega]; rfl
end
theorem lP (s : ByteArray) (l : Bs) (n : Int) (hr : SufR s l) : CallsG Tryz.prog 67 [.ptr 0 0] [.box [.dat (.str s), .dat (.i (u1 s l)), .dat (.i n)]] 1 (fun res B => res = .dat (.str (r0 (u0 l).1)) ∧ B = [.box [.dat (.str s), .dat (.i (u1 s (u0 l).2)), .dat (.i n)]]) := by
  refine oG Tryz.func67 ⟨?_⟩
  repeat' (first | ((with_reducible refine fun (K1 : KT) hK => ?_); (with_reducible refine j5 ?_ ?_); exact rfl; conv => whnf) | ((with_reducible refine Alt.l ?_); conv => whnf) | ((with_reducible refine fun (K1 : KT) hK => ?_); conv => whnf) | ((with_reducible show K1 _ _); subst hK; conv => whnf) | (with_reducible exact rfl) | ((with_reducible refine a8 ?_); conv => whnf) | ((with_reducible refine tB ?_); conv => whnf) | ((with_reducible refine d7 (fun h => ?_) (fun h => ?_)) <;> first | (with_reducible contradiction) | (subst h; conv => whnf) | (conv => whnf)) | ((with_reducible refine pE (fun h => ?_) (fun h => ?_)) <;> first | (with_reducible contradiction) | (subst h; conv => whnf) | (conv => whnf)) | (refine ⟨(rfl : d4 _ = true), rfl, ?_⟩; conv => whnf) | (with_reducible refine q8 ?_ ?_) | (with_reducible refine p9 ?_ ?_) | refine p3 ⟨?_⟩ ⟨?_⟩ | (refine Exists.intro ({x : Bs // TkI s l x}) (Exists.intro (fun ⟨l', hx⟩ => x5 Tryz.f67.ntmps [(0, .ptr 900000 0), (3, .dat (.i (u1 s l)))] [(900000, .box [.dat (.str s), .dat (.i (u1 s l')), .dat (.i n)])]) (Exists.intro (fun ⟨l', hx⟩ => l'.length) (Exists.intro ⟨l, TkI.zero hr⟩ (And.intro (SubP.sub (σ := [(900000, some 900000)]) ⟨⟨rfl, rfl, rfl⟩, ⟨⟨rfl, rfl⟩, j0 ?_, trivial⟩, ⟨⟨g0 ?_, g0 ?_, g0 ?_, trivial⟩, trivial⟩⟩) (fun ⟨l', hx⟩ => ?_))))); rotate_right; conv => whnf) | (refine Exists.intro (⟨l'.tail, ?_⟩ : {x : Bs // TkI s l x}) (And.intro ?_ (SubP.sub (σ := [(900000, some 900000)]) ⟨⟨rfl, rfl, rfl⟩, ⟨⟨rfl, rfl⟩, j0 ?_, trivial⟩, ⟨⟨g0 ?_, g0 ?_, g0 ?_, trivial⟩, trivial⟩⟩))) | ((with_reducible show d3 _ _ _ _ _ _); conv => whnf) | (intro h; conv => whnf))
  all_goals repeat clear hK K1
  all_goals first | (with_reducible assumption) | exact (ps_b hx.suf).1 | exact (ps_b hx.suf).2 | exact (ps_b hr).1 | exact (hx.step asmR asmR asmR asmR).1 | exact (hx.step asmR asmR asmR asmR).2.2 | exact congrArg (Dat.int .i64) (hx.step asmR asmR asmR asmR).2.1.symm | exact (jB hx hr ⟨iN hx asmR⟩).2.2 | exact (jB hx hr ⟨sC hx asmR (d32 asmR).1⟩).2.2 | exact (jB hx hr ⟨sC hx asmR (d40 asmR).1⟩).2.2 | exact (jB hx hr ⟨sC hx asmR (d41 asmR).1⟩).2.2 | exact congrArg (fun x => AV.dat (Dat.str x)) (jB hx hr ⟨iN hx asmR⟩).1 | exact congrArg (fun x => AV.dat (Dat.str x)) (jB hx hr ⟨sC hx asmR (d32 asmR).1⟩).1 | exact congrArg (fun x => AV.dat (Dat.str x)) (jB hx hr ⟨sC hx asmR (d40 asmR).1⟩).1 | exact congrArg (fun x => AV.dat (Dat.str x)) (jB hx hr ⟨sC hx asmR (d41 asmR).1⟩).1 | exact congrArg (fun x => [Blk.box [AV.dat (Dat.str s), AV.dat (Dat.i x), AV.dat (Dat.i n)]]) (jB hx hr ⟨iN hx asmR⟩).2.1 | exact congrArg (fun x => [Blk.box [AV.dat (Dat.str s), AV.dat (Dat.i x), AV.dat (Dat.i n)]]) (jB hx hr ⟨sC hx asmR (d32 asmR).1⟩).2.1 | exact congrArg (fun x => [Blk.box [AV.dat (Dat.str s), AV.dat (Dat.i x), AV.dat (Dat.i n)]]) (jB hx hr ⟨sC hx asmR (d40 asmR).1⟩).2.1 | exact congrArg (fun x => [Blk.box [AV.dat (Dat.str s), AV.dat (Dat.i x), AV.dat (Dat.i n)]]) (jB hx hr ⟨sC hx asmR (d41 asmR).1⟩).2.1 | exact rfl | skip
theorem qag : ∀ l : Bs, Lib.cut l [58] = match dB l with
    | none => (l, [], false)
    | some (a, b) => (a, b, true)
  | [] => rfl
  | c :: l => by
    have ih := qag l
    unfold Lib.cut at ih ⊢
    rw [dB]
    have hge := Lib.index_ge l [58]
    by_cases e : c = 58
    · subst e
      have e1 : Lib.index (58 :: l) [58] = 0 := by rw [Lib.index]; exact if_pos rfl
      rw [if_pos rfl, e1]; rfl
    · have e1 : Lib.index (c :: l) [58] = if Lib.index l [58] == -1 then -1 else Lib.index l [58] + 1 := by
        rw [Lib.index, if_neg]
        simp [List.isPrefixOf]
        exact fun h => e h.symm
      rw [if_neg e, e1]
      by_cases h : Lib.index l [58] = -1
      · rw [h] at ih ⊢
        rw [if_neg (by decide)] at ih
        cases hc : dB l with
        | none => rfl
        | some x => rw [hc] at ih; injection ih with _ ih; injection ih with _ ih; cases ih
      · have h' : (Lib.index l [58] == -1) = false := by simpa using h
        rw [h', if_neg Bool.false_ne_true, if_pos omG]
        rw [if_pos omG] at ih
        have e2 : (Lib.index l [58] + 1).toNat = (Lib.index l [58]).toNat + 1 := by omega
        cases hc : dB l with
        | none => rw [hc] at ih; injection ih with _ ih; injection ih with _ ih; cases ih
        | some x =>
          obtain ⟨a, b⟩ := x
          rw [hc] at ih
          injection ih with i1 i2
          injection i2 with i2 _
          rw [e2, List.take_succ_cons, i1]
          rw [show (Lib.index l [58]).toNat + 1 + [(58 : UInt8)].length = ((Lib.index l [58]).toNat + [(58 : UInt8)].length) + 1 by rw [List.length_singleton], List.drop_succ_cons, i2]
noncomputable def b7 (t : ByteArray) : Bs × Bs × Bool := match dB t.data.toList with
  | none => (t.data.toList, [], false)
  | some (a, b) => (a, b, true)
theorem v_Cut (t : ByteArray) (ht : t.size ≤ 1048576) : CallsV Tryz.prog 87 [.dat (.str t), .dat (.str ⟨#[58]⟩)] (.tup [.dat (.str (r0 (b7 t).1)), .dat (.str (r0 (b7 t).2.1)), .dat (.bool (b7 t).2.2)]) := by
  have h := cutV (P := Tryz.prog) (f := 87) Tryz.lays145 rfl ⟨_, Tryz.func87, rfl, rfl⟩ (by decide) t ⟨#[58]⟩ omG
  have e : Lib.cut t.data.toList (⟨#[58]⟩ : ByteArray).data.toList = b7 t := qag t.data.toList
  rwa [e] at h
theorem jK {s : ByteArray} {l : Bs} (hr : SufR s l) : (r0 (u0 l).1).size ≤ 1048576 := by
  have key : ∀ l : Bs, (u0 l).1.length ≤ l.length := by
    intro l
    induction l with
    | nil => exact Nat.le_refl _
    | cons c l ih =>
      rw [u0]
      split
      · exact Nat.zero_le _
      · simp only [List.length_cons]; omega
  have := key l
  have := hr.le
  have := hr.sz
  show (u0 l).1.length ≤ _
  omega
theorem qaf {t : ByteArray} (ht : t.size ≤ 1048576) : (r0 (b7 t).1).size ≤ 1048576 ∧ (r0 (b7 t).2.1).size ≤ 1048576 := by
  have key : ∀ (l a b : Bs), dB l = some (a, b) → a.length ≤ l.length ∧ b.length ≤ l.length := by
    intro l
    induction l with
    | nil => intro a b h; cases h
    | cons c l ih =>
      intro a b h
      rw [dB] at h
      split at h
      · injection h with h; injection h with h1 h2; subst h1 h2; simp
      · split at h
        · next a' b' e => injection h with h; injection h with h1 h2; subst h1 h2; have := ih _ _ e; simp only [List.length_cons]; omega
        · cases h
  have hl : t.data.toList.length = t.size := rfl
  unfold b7
  split
  · exact ⟨by show t.data.toList.length ≤ _; omega, Nat.zero_le _⟩
  · rename_i a b hc
    have := key _ _ _ hc
    exact ⟨by show a.length ≤ _; omega, by show b.length ≤ _; omega⟩
theorem SufR.num {s : ByteArray} {l : Bs} (h : SufR s l) : SufR s (y6 l).2 := by
  have h1 := h.take (c := 32)
  unfold y6
  split
  · next e => rw [e] at h1; exact h1.tok
  · next e => rw [e] at h1; exact h1
theorem nm_n {l : Bs} (h : (takeR 32 l).1 = false) : y6 l = ((0, false), (takeR 32 l).2) := by
  unfold y6
  split
  · next e => rw [e] at h; cases h
  · next e => rw [e]
theorem nm_y {l : Bs} (h : (takeR 32 l).1 = true) : y6 l = (x6 (r0 (u0 (takeR 32 l).2).1), (u0 (takeR 32 l).2).2) := by
  unfold y6
  split
  · next e => rw [e]; rfl
  · next e => rw [e] at h; cases h
section
variable {s : ByteArray} {l : Bs} {n : Int}
theorem num1 {x : (Int × Bool) × Bs} (h : y6 l = x) : [Blk.box [AV.dat (Dat.str s), AV.dat (Dat.int .i64 (u1 s x.2)), AV.dat (Dat.int .i64 n)]] = [Blk.box [AV.dat (Dat.str s), AV.dat (Dat.i (u1 s (y6 l).2)), AV.dat (Dat.i n)]] := by rw [h]
theorem num2 {x : (Int × Bool) × Bs} (h : y6 l = x) : AV.tup [AV.dat (Dat.int .i64 x.1.1), AV.dat (Dat.bool x.1.2)] = AV.tup [AV.dat (Dat.i (y6 l).1.1), AV.dat (Dat.bool (y6 l).1.2)] := by rw [h]
end
theorem qds (s : ByteArray) (l : Bs) (n : Int) (hr : SufR s l) : CallsG Tryz.prog 68 [.ptr 0 0] [.box [.dat (.str s), .dat (.i (u1 s l)), .dat (.i n)]] 1 (fun res B => res = .tup [.dat (.i (y6 l).1.1), .dat (.bool (y6 l).1.2)] ∧ B = [.box [.dat (.str s), .dat (.i (u1 s (y6 l).2)), .dat (.i n)]]) := by
  refine oG Tryz.func68 ⟨?_⟩
  repeat' (first | ((with_reducible refine fun (K1 : KT) hK => ?_); (with_reducible refine j5 ?_ ?_); exact rfl; conv => whnf) | ((with_reducible refine fun (K1 : KT) hK => ?_); conv => whnf) | ((with_reducible show K1 _ _); subst hK; conv => whnf) | (with_reducible exact rfl) | ((with_reducible refine e9 (fun h => ?_) (fun h => ?_)) <;> first | (exact u2 h asmR) | (exact u2 asmR h) | (conv => whnf)) | (refine ⟨(rfl : d4 _ = true), rfl, ?_⟩; conv => whnf) | refine p3 ⟨?_⟩ ⟨?_⟩ | ((with_reducible refine j3 (g := 64) ?_); refine ⟨_, _, yX (hr := ?_) .., zV ?_⟩; rotate_right; conv => whnf) | ((with_reducible first | refine s0 (g := 36) ?_ | show Exists _); refine ⟨_, fJ (hs := ?_) .., rfl, ?_⟩; rotate_right; conv => whnf) | ((with_reducible refine j3 (g := 67) ?_); refine ⟨_, _, lP (hr := ?_) .., zV ?_⟩; rotate_right; conv => whnf) | ((with_reducible show d3 _ _ _ _ _ _); conv => whnf) | (intro h; conv => whnf))
  all_goals repeat clear hK K1
  all_goals first | exact num1 (nm_n asmR) | exact num1 (nm_y asmR) | exact num2 (nm_n asmR) | exact num2 (nm_y asmR) | exact hr | exact hr.take | exact jK hr.take | skip
/-! ### leaves -/
theorem lfn {t : ByteArray} (h : (b7 t).2.2 = false) : w7 t.data.toList = (w5, false) := by
  unfold b7 at h
  unfold w7
  split
  · rfl
  · next e => rw [e] at h; cases h
theorem pQ {t : ByteArray} (h : (b7 t).2.2 = true) : dB t.data.toList = some ((b7 t).1, (b7 t).2.1) := by
  unfold b7 at h ⊢
  split at h
  · cases h
  · next e => rw [e]
theorem lfp {t : ByteArray} (h : (b7 t).2.2 = true) (h2 : (x6 (r0 (b7 t).2.1)).2 = false) : w7 t.data.toList = (w5, false) := by
  unfold w7
  rw [pQ h]
  exact if_pos h2
theorem lfv {t : ByteArray} (h : (b7 t).2.2 = true) (h2 : (x6 (r0 (b7 t).2.1)).2 = true) (h3 : isNameP (r0 (b7 t).1) = true) : w7 t.data.toList = (⟨22, (x6 (r0 (b7 t).2.1)).1, 0, r0 (b7 t).1, []⟩, true) := by
  unfold w7
  rw [pQ h]
  exact (if_neg (fun q => by rw [show s9 (b7 t).2.1 = x6 (r0 (b7 t).2.1) from rfl, h2] at q; cases q)).trans (if_pos h3)
theorem lfc {t : ByteArray} (h : (b7 t).2.2 = true) (h2 : (x6 (r0 (b7 t).2.1)).2 = true) (h3 : isNameP (r0 (b7 t).1) = false) : w7 t.data.toList = (⟨0, (x6 (r0 (b7 t).1)).1, (x6 (r0 (b7 t).2.1)).1, ByteArray.empty, []⟩, (x6 (r0 (b7 t).1)).2) := by
  unfold w7
  rw [pQ h]
  exact (if_neg (fun q => by rw [show s9 (b7 t).2.1 = x6 (r0 (b7 t).2.1) from rfl, h2] at q; cases q)).trans (if_neg (fun q => by rw [show isNameP (⟨(b7 t).1.toArray⟩ : ByteArray) = isNameP (r0 (b7 t).1) from rfl, h3] at q; cases q))
def mC (t : V.Term) : AV := .agg [.dat (.i t.op), .dat (.i t.w), .dat (.i t.n), .dat (.str t.name), .nils]
theorem lfe {tk : Bs} {o w n : Int} {nm : ByteArray} {b : Bool} (h : w7 tk = (⟨o, w, n, nm, []⟩, b)) : AV.tup [.agg [.dat (.int .i64 o), .dat (.int .i64 w), .dat (.int .i64 n), .dat (.str nm), .nils], .dat (.bool b)] = AV.tup [mC (w7 tk).1, .dat (.bool (w7 tk).2)] := by rw [h]; rfl
theorem i_leaf (s : ByteArray) (l : Bs) (n : Int) (hr : SufR s l) : CallsG Tryz.prog 65 [.ptr 0 0] [.box [.dat (.str s), .dat (.i (u1 s l)), .dat (.i n)]] 1 (fun res B => res = .tup [mC (w7 (u0 l).1).1, .dat (.bool (w7 (u0 l).1).2)] ∧ B = [.box [.dat (.str s), .dat (.i (u1 s (u0 l).2)), .dat (.i n)]]) := by
  refine oG Tryz.func65 ⟨?_⟩
  repeat' (first | ((with_reducible refine fun (K1 : KT) hK => ?_); (with_reducible refine j5 ?_ ?_); exact rfl; conv => whnf) | ((with_reducible refine fun (K1 : KT) hK => ?_); conv => whnf) | ((with_reducible show K1 _ _); subst hK; conv => whnf) | (with_reducible exact rfl) | ((with_reducible refine a8 ?_); conv => whnf) | ((with_reducible refine m9 ?_); conv => whnf) | ((with_reducible refine f9 ?_); conv => whnf) | ((with_reducible refine e9 (fun h => ?_) (fun h => ?_)) <;> first | (exact u2 h asmR) | (exact u2 asmR h) | (conv => whnf)) | ((with_reducible refine lD (fun h => ?_) (fun h => ?_)) <;> first | (exact u2 h asmR) | (exact u2 asmR h) | (conv => whnf)) | ((with_reducible refine vA (fun h => ?_) (fun h => ?_)) <;> first | (exact u2 h asmR) | (exact u2 asmR h) | (conv => whnf)) | (refine ⟨(rfl : d4 _ = true), rfl, ?_⟩; conv => whnf) | refine p3 ⟨?_⟩ ⟨?_⟩ | ((with_reducible first | refine s0 (g := 87) ?_ | show Exists _); refine ⟨_, v_Cut (ht := ?_) .., rfl, ?_⟩; rotate_right; conv => whnf) | ((with_reducible refine j3 (g := 67) ?_); refine ⟨_, _, lP (hr := ?_) .., zV ?_⟩; rotate_right; conv => whnf) | ((with_reducible first | refine s0 (g := 36) ?_ | show Exists _); refine ⟨_, fJ (hs := ?_) .., rfl, ?_⟩; rotate_right; conv => whnf) | ((with_reducible first | refine s0 (g := 88) ?_ | show Exists _); refine ⟨_, kY .., rfl, ?_⟩; rotate_right; conv => whnf) | ((with_reducible show d3 _ _ _ _ _ _); conv => whnf) | (intro h; conv => whnf))
  all_goals repeat clear hK K1
  all_goals first | exact hr | exact jK hr | exact (qaf (jK hr)).1 | exact (qaf (jK hr)).2 | exact lfe (lfn asmR) | exact lfe (lfp asmR asmR) | exact lfe (lfv asmR asmR asmR) | exact lfe (lfc asmR asmR asmR) | skip
/-! ### words of operations -/
structure OpJ (tk : Bs) (j : Nat) : Prop where
  lo : 1 ≤ j
  hi : j ≤ 22
  no : s4 tk = 0 ∨ (j : Int) ≤ s4 tk
theorem OpJ.zero (tk : Bs) : OpJ tk 1 := ⟨Nat.le_refl _, by omega, by rcases dG tk with h | h; exact .inl h; exact .inr omG⟩
theorem opB_i {op : Int} (h1 : 1 ≤ op) (h2 : op ≤ 16) (l : List ByteArray) (hl : l = (opNs.take 16).map r0) : l.getD (IntKind.i64.wrap (op - 1)).toNat K.strs.dflt = x7 op := by
  subst hl
  rw [z1 omG omG]
  have h : ∀ k : Nat, k < 16 → ((opNs.take 16).map r0).getD k K.strs.dflt = x7 ((k + 1 : Nat) : Int) := by decide
  have := h (op - 1).toNat omG
  rwa [show (((op - 1).toNat + 1 : Nat) : Int) = op by omega] at this
theorem op_hi {op : Int} {l : List ByteArray} (h : op > (l.length : Int)) (hl : l.length = 16) (h2 : op ≤ 16) : False := by omega
theorem pP (op : Int) (h1 : 1 ≤ op) (h2 : op ≤ 16) : CallsV Tryz.prog 51 [.dat (.i op)] (.dat (.str (x7 op))) := by
  refine oV Tryz.func51 ⟨?_⟩
  repeat' (first | ((with_reducible refine fun (K1 : KT) hK => ?_); (with_reducible refine j5 ?_ ?_); exact rfl; conv => whnf) | ((with_reducible refine fun (K1 : KT) hK => ?_); conv => whnf) | ((with_reducible show K1 _ _); subst hK; conv => whnf) | (with_reducible exact rfl) | ((with_reducible refine a8 ?_); conv => whnf) | ((with_reducible refine m9 ?_); conv => whnf) | ((with_reducible refine f9 ?_); conv => whnf) | ((with_reducible refine d7 (fun h => ?_) (fun h => ?_)) <;> first | (with_reducible contradiction) | (subst h; conv => whnf) | (conv => whnf)) | ((with_reducible refine mD (fun h => ?_) (fun h => ?_)) <;> first | (with_reducible contradiction) | (subst h; conv => whnf) | (conv => whnf)) | (refine ⟨(rfl : d4 _ = true), rfl, ?_⟩; conv => whnf) | (with_reducible refine q8 ?_ ?_) | refine p3 ⟨?_⟩ ⟨?_⟩ | ((with_reducible show d3 _ _ _ _ _ _); conv => whnf) | (intro h; conv => whnf))
  all_goals repeat clear hK K1
  all_goals first | exact congrArg Dat.str (opB_i h1 h2 _ rfl).symm | omega | exact (op_hi asmR rfl h2).elim | (rw [z1 omG omG]; omega) | (show _ < 16; rw [z1 omG omG]; omega) | (show _ < ((16 : Nat) : Int); rw [z1 omG omG]; omega) | skip
theorem mP (op : Int) (h1 : 1 ≤ op) (h2 : op ≤ 21) : CallsV Tryz.prog 72 [.dat (.i op)] (.dat (.str (x7 op))) := by
  refine oV Tryz.func72 ⟨?_⟩
  repeat' (first | ((with_reducible refine fun (K1 : KT) hK => ?_); (with_reducible refine j5 ?_ ?_); exact rfl; conv => whnf) | ((with_reducible refine fun (K1 : KT) hK => ?_); conv => whnf) | ((with_reducible show K1 _ _); subst hK; conv => whnf) | (with_reducible exact rfl) | ((with_reducible refine uA (fun h => ?_) (fun h => ?_)) <;> first | (with_reducible contradiction) | (subst h; conv => whnf) | (conv => whnf)) | (refine ⟨(rfl : d4 _ = true), rfl, ?_⟩; conv => whnf) | ((with_reducible first | refine s0 (g := 51) ?_ | show Exists _); refine ⟨_, pP (h1 := ?_) (h2 := ?_) .., rfl, ?_⟩; rotate_right; conv => whnf) | ((with_reducible show d3 _ _ _ _ _ _); conv => whnf) | (intro h; conv => whnf))
  all_goals repeat clear hK K1
  all_goals first | exact rfl | omega | skip
theorem OpJ.hit {tk : Bs} {j : Nat} (h : OpJ tk j) (hj : (j : Int) ≤ 21) (e : ((x7 (j : Int)).toList == (r0 tk).toList) = true) : s4 tk = j := by
  have e2 : j8 (j : Int) = tk := mkB_b e
  rw [← e2]; exact (op_R (by have := h.lo; omega) hj).1
theorem OpJ.miss {tk : Bs} {j : Nat} (h : OpJ tk j) (hj : (j : Int) ≤ 21) (e : ((x7 (j : Int)).toList == (r0 tk).toList) = false) : OpJ tk (j + 1) := by
  refine ⟨by omega, by omega, ?_⟩
  rcases dG tk with h0 | ⟨h1, h2, h3⟩
  · exact .inl h0
  · rcases h.no with h0 | h0
    · omega
    · have : s4 tk ≠ j := fun q => by rw [q] at h3; exact mkB_n e h3
      exact .inr omG
theorem OpJ.fin {tk : Bs} {j : Nat} (h : OpJ tk j) (hj : ¬ (j : Int) ≤ 21) : s4 tk = 0 := by
  rcases dG tk with h0 | ⟨h1, h2, _⟩
  · exact h0
  · rcases h.no with h0 | h0
    · exact h0
    · omega
theorem qdr (tk : Bs) : CallsV Tryz.prog 66 [.dat (.str (r0 tk))] (.dat (.i (s4 tk))) := by
  refine oV Tryz.func66 ⟨?_⟩
  repeat' (first | ((with_reducible refine fun (K1 : KT) hK => ?_); (with_reducible refine j5 ?_ ?_); exact rfl; conv => whnf) | ((with_reducible refine fun (K1 : KT) hK => ?_); conv => whnf) | ((with_reducible show K1 _ _); subst hK; conv => whnf) | (with_reducible exact rfl) | ((with_reducible refine d7 (fun h => ?_) (fun h => ?_)) <;> first | (with_reducible contradiction) | (subst h; conv => whnf) | (conv => whnf)) | ((with_reducible refine vA (fun h => ?_) (fun h => ?_)) <;> first | (exact u2 h asmR) | (exact u2 asmR h) | (conv => whnf)) | (refine ⟨(rfl : d4 _ = true), rfl, ?_⟩; conv => whnf) | (refine Exists.intro ({j : Nat // OpJ tk j}) (Exists.intro (fun ⟨j, hj⟩ => x5 Tryz.f66.ntmps [(0, .dat (.str (r0 tk))), (3, .dat (.i j))] []) (Exists.intro (fun ⟨j, hj⟩ => 22 - j) (Exists.intro ⟨1, OpJ.zero tk⟩ (And.intro (SubP.sub (σ := []) ⟨⟨rfl, rfl, rfl⟩, ⟨j0 ?_, j0 ?_, trivial⟩, trivial⟩) (fun ⟨j, hj⟩ => ?_))))); rotate_right; conv => whnf) | (refine Exists.intro (⟨j + 1, ?_⟩ : {j : Nat // OpJ tk j}) (And.intro ?_ (SubP.sub (σ := []) ⟨⟨rfl, rfl, rfl⟩, ⟨j0 ?_, j0 ?_, trivial⟩, trivial⟩))) | ((with_reducible first | refine s0 (g := 72) ?_ | show Exists _); refine ⟨_, mP (h1 := ?_) (h2 := ?_) .., rfl, ?_⟩; rotate_right; conv => whnf) | ((with_reducible show d3 _ _ _ _ _ _); conv => whnf) | (intro h; conv => whnf))
  all_goals repeat clear hK K1
  all_goals first | exact congrArg (Dat.int .i64) (hj.hit asmR asmR) | exact hj.miss asmR asmR | exact congrArg (Dat.int .i64) (hj.fin asmR) | (with_reducible assumption) | ((with_reducible show (_ : Int) ≤ _); have q := hj.lo; omega) | ((with_reducible show (_ : Nat) < _); dsimp only; omega) | exact rfl | ((with_reducible show Dat.int _ _ = Dat.int _ _); refine congrArg (Dat.int .i64) ?_; rw [z1 omG omG]; rfl) | skip
section
variable {op w : Int} {ks : List V.Term}
theorem pw1 (h : op ≤ 13) : pW op w ks = (ks.getD (Int.toNat 0) K.terms.dflt).w := by unfold pW; rw [if_pos h]; rfl
theorem pw2 (h : ¬ op ≤ 13) (h2 : op ≤ 16) : pW op w ks = 1 := by unfold pW; rw [if_neg h, if_pos h2]
theorem pw5 (h : ¬ op ≤ 13) (h2 : ¬ op ≤ 16) (h3 : ¬ op = 17) (h4 : ¬ op = 18) : pW op w ks = w := by unfold pW; rw [if_neg h, if_neg h2, if_neg h3, if_neg h4]
theorem kn_pos (hk : ks.length = (e8 op).toNat) (h1 : 1 ≤ op) (h2 : op ≤ 21) : 0 < (ks.length : Int) := by
  have h : ∀ k : Nat, k < 22 → 1 ≤ k → 0 < (e8 (k : Int)).toNat := by decide
  have := h op.toNat omG omG
  rw [show ((op.toNat : Nat) : Int) = op by omega] at this
  omega
end
theorem qdo (op w n : Int) (nm : ByteArray) (ks : List V.Term) (hk : ks.length = (e8 op).toNat) (h1 : 1 ≤ op) (h2 : op ≤ 21) : CallsV Tryz.prog 70 [.agg [.dat (.i op), .dat (.i w), .dat (.i n), .dat (.str nm), .dat (.seq .terms ks)]] (.dat (.i (pW op w ks))) := by
  refine oV Tryz.func70 ⟨?_⟩
  repeat' (first | ((with_reducible refine fun (K1 : KT) hK => ?_); (with_reducible refine j5 ?_ ?_); exact rfl; conv => whnf) | ((with_reducible refine Alt.l ?_); conv => whnf) | ((with_reducible refine fun (K1 : KT) hK => ?_); conv => whnf) | ((with_reducible show K1 _ _); subst hK; conv => whnf) | (with_reducible exact rfl) | ((with_reducible refine d7 (fun h => ?_) (fun h => ?_)) <;> first | (with_reducible contradiction) | (subst h; conv => whnf) | (conv => whnf)) | ((with_reducible refine uA (fun h => ?_) (fun h => ?_)) <;> first | (with_reducible contradiction) | (subst h; conv => whnf) | (conv => whnf)) | (refine ⟨(rfl : d4 _ = true), rfl, ?_⟩; conv => whnf) | (with_reducible refine q8 ?_ ?_) | refine p3 ⟨?_⟩ ⟨?_⟩ | ((with_reducible show d3 _ _ _ _ _ _); conv => whnf) | (intro h; conv => whnf))
  all_goals repeat clear hK K1
  all_goals first | exact congrArg (Dat.int .i64) (pw1 asmR) | exact congrArg (Dat.int .i64) (pw2 asmR asmR) | exact congrArg (Dat.int .i64) (pw5 asmR asmR asmR asmR) | exact kn_pos hk h1 h2 | (with_reducible exact Int.le_refl _) | decide | exact rfl | (show (1 : Int) < _; rw [hk]; decide) | skip
end Vg
