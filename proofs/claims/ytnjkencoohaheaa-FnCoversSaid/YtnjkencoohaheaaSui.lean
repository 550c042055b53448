/- Smallest suites: the walks. Condition: the program, the tests and the fuel are in order. -/
import Derived.Test.YtnjkencoohaheaaSuiP
import Derived.Test.YtnjkencoohaheaaSuiP
namespace Vg
open Go Go.Proofs
theorem bit_yu {m k : Nat} (hk : k ≤ 10) (h : IntKind.i64.wrap (BitVec.ofInt IntKind.i64.bits ((m : Int).fdiv (2 ^ (min (IntKind.u64.wrap (k : Int)).toNat IntKind.i64.bits))) &&& BitVec.ofInt IntKind.i64.bits 1).toNat = 1) : bitE m k = true := by
  rw [u64_small hk] at h; exact bit_y h
theorem bit_nu {m k : Nat} (hk : k ≤ 10) (h : ¬ IntKind.i64.wrap (BitVec.ofInt IntKind.i64.bits ((m : Int).fdiv (2 ^ (min (IntKind.u64.wrap (k : Int)).toNat IntKind.i64.bits))) &&& BitVec.ofInt IntKind.i64.bits 1).toNat = 1) : bitE m k = false := by
  rw [u64_small hk] at h; exact bit_n h
theorem acc {p : V.Prog} {ts : List (List Int)} {fuel : Int} {m k : Nat} (hk : ¬ (k : Int) < ts.length) (hk2 : k ≤ ts.length) (hE : decide (asc (gotTo p ts fuel m k) = asc (allTo p ts fuel ts.length)) = true)
    (h2 : (bestTo p ts fuel m).2 = false ∨ (lstTo m k).length < (bestTo p ts fuel m).1.length ∨ ((lstTo m k).length = (bestTo p ts fuel m).1.length ∧ lessL (lstTo m k) (bestTo p ts fuel m).1 = true)) : bestTo p ts fuel (m + 1) = (lstTo m k, true) := by
  obtain rfl : k = ts.length := by omega
  exact best_yes (of_decide_eq_true hE) h2
theorem nacc {p : V.Prog} {ts : List (List Int)} {fuel : Int} {m k : Nat} (hk : ¬ (k : Int) < ts.length) (hk2 : k ≤ ts.length)
    (h1 : (bestTo p ts fuel m).2 = true) (h2 : ¬ (lstTo m k).length < (bestTo p ts fuel m).1.length) (h3 : (lstTo m k).length = (bestTo p ts fuel m).1.length → lessL (lstTo m k) (bestTo p ts fuel m).1 = false) : bestTo p ts fuel (m + 1) = bestTo p ts fuel m := by
  obtain rfl : k = ts.length := by omega
  refine best_not ?_
  rintro (h | h | ⟨h, h'⟩)
  · rw [h1] at h; cases h
  · exact h2 h
  · rw [h3 h] at h'; cases h'
theorem nacc0 {p : V.Prog} {ts : List (List Int)} {fuel : Int} {m k : Nat} (hk : ¬ (k : Int) < ts.length) (hk2 : k ≤ ts.length) (hE : decide (asc (gotTo p ts fuel m k) = asc (allTo p ts fuel ts.length)) = false) : bestTo p ts fuel (m + 1) = bestTo p ts fuel m := by
  obtain rfl : k = ts.length := by omega
  exact best_no (of_decide_eq_false hE)
theorem len_d {a b : List Int} (ha : a.length ≤ 10) (hb : b.length ≤ 10) : IntKind.i64.wrap ((a.length : Int) - b.length) = (a.length : Int) - b.length := wrap_id (by omega) (by omega)
section
variable {p : V.Prog} {ts : List (List Int)} {fuel : Int} {m k : Nat}
theorem lst10 (hk2 : k ≤ ts.length) (h10 : ts.length ≤ 10) : (lstTo m k).length ≤ 10 := by have := lst_len m k; omega
theorem best10 (h10 : ts.length ≤ 10) : (bestTo p ts fuel m).1.length ≤ 10 := by have := best_len p ts fuel m; omega
theorem acc_i1 (hk : ¬ (k : Int) < ts.length) (hk2 : k ≤ ts.length) (hE : decide (asc (gotTo p ts fuel m k) = asc (allTo p ts fuel ts.length)) = true) (h : (bestTo p ts fuel m).2 = false) : bestTo p ts fuel (m + 1) = (lstTo m k, true) := acc hk hk2 hE (.inl h)
theorem acc_i2 (h10 : ts.length ≤ 10) (hk : ¬ (k : Int) < ts.length) (hk2 : k ≤ ts.length) (hE : decide (asc (gotTo p ts fuel m k) = asc (allTo p ts fuel ts.length)) = true) (h : IntKind.i64.wrap (((lstTo m k).length : Int) - (bestTo p ts fuel m).1.length) < 0) : bestTo p ts fuel (m + 1) = (lstTo m k, true) := by
  rw [wrap_id (by have := best10 (p := p) (ts := ts) (fuel := fuel) (m := m) h10; omega) (by have := lst10 (m := m) hk2 h10; omega)] at h
  exact acc hk hk2 hE (.inr (.inl (by omega)))
theorem acc_i3 (h10 : ts.length ≤ 10) (hk : ¬ (k : Int) < ts.length) (hk2 : k ≤ ts.length) (hE : decide (asc (gotTo p ts fuel m k) = asc (allTo p ts fuel ts.length)) = true) (h : IntKind.i64.wrap (((lstTo m k).length : Int) - (bestTo p ts fuel m).1.length) = 0) (h' : cmpL (lstTo m k) (bestTo p ts fuel m).1 < 0) : bestTo p ts fuel (m + 1) = (lstTo m k, true) := by
  rw [wrap_id (by have := best10 (p := p) (ts := ts) (fuel := fuel) (m := m) h10; omega) (by have := lst10 (m := m) hk2 h10; omega)] at h
  have e : (lstTo m k).length = (bestTo p ts fuel m).1.length := by omega
  exact acc hk hk2 hE (.inr (.inr ⟨e, (cmp_less e).1 h'⟩))
theorem nacc_i1 (h10 : ts.length ≤ 10) (hk : ¬ (k : Int) < ts.length) (hk2 : k ≤ ts.length) (h0 : (bestTo p ts fuel m).2 = true) (h : ¬ IntKind.i64.wrap (((lstTo m k).length : Int) - (bestTo p ts fuel m).1.length) < 0) (h1 : ¬ IntKind.i64.wrap (((lstTo m k).length : Int) - (bestTo p ts fuel m).1.length) = 0) : bestTo p ts fuel (m + 1) = bestTo p ts fuel m := by
  rw [wrap_id (by have := best10 (p := p) (ts := ts) (fuel := fuel) (m := m) h10; omega) (by have := lst10 (m := m) hk2 h10; omega)] at h h1
  exact nacc hk hk2 h0 (by omega) (fun e => absurd e (by omega))
theorem nacc_i2 (h10 : ts.length ≤ 10) (hk : ¬ (k : Int) < ts.length) (hk2 : k ≤ ts.length) (h0 : (bestTo p ts fuel m).2 = true) (h : ¬ IntKind.i64.wrap (((lstTo m k).length : Int) - (bestTo p ts fuel m).1.length) < 0) (h1 : ¬ cmpL (lstTo m k) (bestTo p ts fuel m).1 < 0) : bestTo p ts fuel (m + 1) = bestTo p ts fuel m := by
  rw [wrap_id (by have := best10 (p := p) (ts := ts) (fuel := fuel) (m := m) h10; omega) (by have := lst10 (m := m) hk2 h10; omega)] at h
  refine nacc hk hk2 h0 (by omega) (fun e => ?_)
  cases hl : lessL (lstTo m k) (bestTo p ts fuel m).1 with
  | false => rfl
  | true => exact absurd ((cmp_less e).2 hl) h1
theorem acc_s1 (hk : ¬ (k : Int) < ts.length) (hk2 : k ≤ ts.length) (hE : decide (asc (allTo p (someTo ts m k) fuel (someTo ts m k).length) = asc (allTo p ts fuel ts.length)) = true) (h : (bestTo p ts fuel m).2 = false) : bestTo p ts fuel (m + 1) = (lstTo m k, true) := by
  rw [got_some] at hE; exact acc hk hk2 hE (.inl h)
theorem acc_s2 (hk : ¬ (k : Int) < ts.length) (hk2 : k ≤ ts.length) (hE : decide (asc (allTo p (someTo ts m k) fuel (someTo ts m k).length) = asc (allTo p ts fuel ts.length)) = true) (h : ¬ ((lstTo m k).length : Int) > (bestTo p ts fuel m).1.length) (h1 : ¬ ((lstTo m k).length : Int) = (bestTo p ts fuel m).1.length) : bestTo p ts fuel (m + 1) = (lstTo m k, true) := by
  rw [got_some] at hE; exact acc hk hk2 hE (.inr (.inl (by omega)))
theorem acc_s3 (hk : ¬ (k : Int) < ts.length) (hk2 : k ≤ ts.length) (hE : decide (asc (allTo p (someTo ts m k) fuel (someTo ts m k).length) = asc (allTo p ts fuel ts.length)) = true) (h : ((lstTo m k).length : Int) = (bestTo p ts fuel m).1.length) (h1 : lessL (lstTo m k) (bestTo p ts fuel m).1 = true) : bestTo p ts fuel (m + 1) = (lstTo m k, true) := by
  rw [got_some] at hE; exact acc hk hk2 hE (.inr (.inr ⟨by omega, h1⟩))
theorem nacc_s0 (hk : ¬ (k : Int) < ts.length) (hk2 : k ≤ ts.length) (hE : decide (asc (allTo p (someTo ts m k) fuel (someTo ts m k).length) = asc (allTo p ts fuel ts.length)) = false) : bestTo p ts fuel (m + 1) = bestTo p ts fuel m := by
  rw [got_some] at hE; exact nacc0 hk hk2 hE
theorem nacc_s1 (hk : ¬ (k : Int) < ts.length) (hk2 : k ≤ ts.length) (h0 : (bestTo p ts fuel m).2 = true) (h : ((lstTo m k).length : Int) > (bestTo p ts fuel m).1.length) : bestTo p ts fuel (m + 1) = bestTo p ts fuel m := nacc hk hk2 h0 (by omega) (fun e => absurd e (by omega))
theorem nacc_s2 (hk : ¬ (k : Int) < ts.length) (hk2 : k ≤ ts.length) (h0 : (bestTo p ts fuel m).2 = true) (h : ((lstTo m k).length : Int) = (bestTo p ts fuel m).1.length) (h1 : lessL (lstTo m k) (bestTo p ts fuel m).1 = false) : bestTo p ts fuel (m + 1) = bestTo p ts fuel m := nacc hk hk2 h0 (by omega) (fun _ => h1)
theorem sh_r {n : Nat} (h : n ≤ 10) : 0 ≤ IntKind.u64.wrap ((n : Nat) : Int) := by rw [u64_small h]; omega
theorem mask_lt (h10 : ts.length ≤ 10) (h : (m : Int) < IntKind.i64.wrap (1 * 2 ^ min (IntKind.u64.wrap (ts.length : Int)).toNat IntKind.i64.bits)) : m + 1 ≤ 2 ^ ts.length := by
  rw [u64_small h10, pow_n h10] at h; omega
theorem mask_lt' (h10 : ts.length ≤ 10) (h : (m : Int) < IntKind.i64.wrap (1 * 2 ^ min (ts.length : Int).toNat IntKind.i64.bits)) : m + 1 ≤ 2 ^ ts.length := by
  rw [pow_n h10] at h; omega
theorem mask_ge (h10 : ts.length ≤ 10) (hm : m ≤ 2 ^ ts.length) (h : ¬ (m : Int) < IntKind.i64.wrap (1 * 2 ^ min (IntKind.u64.wrap (ts.length : Int)).toNat IntKind.i64.bits)) : m = 2 ^ ts.length := by
  rw [u64_small h10, pow_n h10] at h; omega
theorem mask_ge' (h10 : ts.length ≤ 10) (hm : m ≤ 2 ^ ts.length) (h : ¬ (m : Int) < IntKind.i64.wrap (1 * 2 ^ min (ts.length : Int).toNat IntKind.i64.bits)) : m = 2 ^ ts.length := by
  rw [pow_n h10] at h; omega
theorem mask_w (h10 : ts.length ≤ 10) (hm : m ≤ 2 ^ ts.length) : Dat.i ((m + 1 : Nat) : Int) = Dat.int .i64 (IntKind.i64.wrap ((m : Int) + 1)) := by
  have := pow_le h10
  rw [wrap_id (by omega) (by omega)]; rfl
theorem edg_set (h : (k : Int) < ts.length) : (edgL p ts fuel).take (k + 1) ++ List.replicate (ts.length - (k + 1)) [] = ((edgL p ts fuel).take k ++ List.replicate (ts.length - k) []).set (k : Int).toNat (asc (rawTo p (ts.getD (k : Int).toNat K.intss.dflt) fuel.toNat)) := by
  have e := set_mid (a := edgL p ts fuel) (k := k) ([] : List Int) [] (by rw [edgL_len]; exact h)
  rw [edgL_len] at e
  rw [← e, Int.toNat_natCast, edgL_at h]; rfl
theorem edg_end (hk : ¬ (k : Int) < ts.length) : edgL p ts fuel = (edgL p ts fuel).take k ++ List.replicate (ts.length - k) [] := by
  rw [List.take_of_length_le (by rw [edgL_len]; omega), show ts.length - k = 0 from by omega]; simp
theorem edg_row (h : (k : Int) < ts.length) : (edgL p ts fuel).getD (k : Int).toNat K.intss.dflt = asc (rawTo p (ts.getD k []) fuel.toNat) := by
  rw [Int.toNat_natCast]; exact edgL_at h
theorem got_cap (hf : inP fuel 0 400 = true) (h10 : ts.length ≤ 10) (h : (k : Int) < ts.length) : (gotTo p ts fuel m k).length + ((edgL p ts fuel).getD (k : Int).toNat K.intss.dflt).length ≤ 10000 := by
  rw [edg_row h]
  have h1 := got_len (p := p) (ts := ts) hf m k
  have h2 := asc_len (rawTo p (ts.getD k []) fuel.toNat)
  have h3 := raw_len p (ts.getD k []) fuel.toNat
  have h4 := cfuel_b hf
  omega
theorem got_yr (hk : (k : Int) < ts.length) (h : bitE m k = true) : gotTo p ts fuel m (k + 1) = gotTo p ts fuel m k ++ (edgL p ts fuel).getD (k : Int).toNat K.intss.dflt := by rw [edg_row hk]; exact got_y h
theorem some_yr (h : bitE m k = true) : someTo ts m (k + 1) = someTo ts m k ++ [ts.getD (k : Int).toNat K.intss.dflt] := by rw [Int.toNat_natCast]; exact some_y h
end
set_option maxHeartbeats 8000000 in
set_option maxRecDepth 100000 in
theorem i_SuiOk (w mem inn : Int) (c : List V.Ins) (ts : List (List Int)) (fuel : Int) (h10 : ts.length ≤ 10) (h3 : ts.all (fun x => inputsP ⟨w, mem, inn, c⟩ x) = true) (hf : inP fuel 0 400 = true) : CallsF Try.prog 49 [.agg [.dat (.i w), .dat (.i mem), .dat (.i inn), .dat (.seq .inss c)], .dat (.seq .intss ts), .dat (.i fuel)] true (fun res B => res = .row 0 ∧ B = [.row 3 .ints (bestTo ⟨w, mem, inn, c⟩ ts fuel (2 ^ ts.length)).1 false]) := by
  refine CallsF.of_awp tauOk mixOk Try.func49 rfl rfl rfl ?_
  conv => whnf
  repeat' (first
    | ((with_reducible refine fun (K1 : AX → AState → Prop) hK => ?_); (with_reducible refine awp_rg ?_ ?_); exact rfl; conv => whnf)
    | ((with_reducible refine Alt.l ?_); conv => whnf)
    | ((with_reducible refine fun (K1 : AX → AState → Prop) hK => ?_); conv => whnf)
    | ((with_reducible show K1 _ _); subst hK; conv => whnf)
    | (with_reducible exact rfl)
    | ((with_reducible refine sp_T ?_); conv => whnf)
    | ((with_reducible refine sp_F ?_); conv => whnf)
    | ((with_reducible refine sp_T' ?_); conv => whnf)
    | ((with_reducible refine sp_F' ?_); conv => whnf)
    | ((with_reducible refine sp_dF ?_ ?_); decide; conv => whnf)
    | ((with_reducible refine sp_dT ?_ ?_); decide; conv => whnf)
    | ((with_reducible refine sp_d (fun h => ?_) (fun h => ?_)) <;> first | contradiction | (subst h; conv => whnf) | (conv => whnf))
    | ((with_reducible refine sp_d' (fun h => ?_) (fun h => ?_)) <;> first | contradiction | (subst h; conv => whnf) | (conv => whnf))
    | ((with_reducible refine sp_eF ?_ ?_); decide; conv => whnf)
    | ((with_reducible refine sp_eT ?_); conv => whnf)
    | ((with_reducible refine sp_e (fun h => ?_) (fun h => ?_)) <;> first | contradiction | (subst h; conv => whnf) | (conv => whnf))
    | ((with_reducible refine sp_e' (fun h => ?_) (fun h => ?_)) <;> first | contradiction | (subst h; conv => whnf) | (conv => whnf))
    | ((with_reducible refine sp_n (fun h => ?_) (fun h => ?_)) <;> first | contradiction | (subst h; conv => whnf) | (conv => whnf))
    | ((with_reducible refine sp_n' (fun h => ?_) (fun h => ?_)) <;> first | contradiction | (subst h; conv => whnf) | (conv => whnf))
    | ((with_reducible refine sp_nb (fun h => ?_) (fun h => ?_)) <;> first | (exact Bool.noConfusion (Eq.trans (Eq.symm h) (show _ = true by with_reducible assumption))) | (exact Bool.noConfusion (Eq.trans (Eq.symm (show _ = false by with_reducible assumption)) h)) | (conv => whnf))
    | ((with_reducible refine sp_nb' (fun h => ?_) (fun h => ?_)) <;> first | (exact Bool.noConfusion (Eq.trans (Eq.symm h) (show _ = true by with_reducible assumption))) | (exact Bool.noConfusion (Eq.trans (Eq.symm (show _ = false by with_reducible assumption)) h)) | (conv => whnf))
    | ((with_reducible refine sp_b (fun h => ?_) (fun h => ?_)) <;> first | (exact Bool.noConfusion (Eq.trans (Eq.symm h) (show _ = true by with_reducible assumption))) | (exact Bool.noConfusion (Eq.trans (Eq.symm (show _ = false by with_reducible assumption)) h)) | (conv => whnf))
    | ((with_reducible refine sp_b' (fun h => ?_) (fun h => ?_)) <;> first | (exact Bool.noConfusion (Eq.trans (Eq.symm h) (show _ = true by with_reducible assumption))) | (exact Bool.noConfusion (Eq.trans (Eq.symm (show _ = false by with_reducible assumption)) h)) | (conv => whnf))
    | (refine ⟨(rfl : nodupB _ = true), rfl, ?_⟩; conv => whnf)
    | (with_reducible refine bnd2 ?_ ?_)
    | (with_reducible refine bnd2' ?_ ?_)
    | (with_reducible refine bndN ?_ ?_)
    | ((with_reducible refine and_of ?_ ?_); conv => whnf)
    | (refine Exists.intro ({k : Nat // k ≤ ts.length}) (Exists.intro (fun ⟨k, hk⟩ => mkS Try.f49.ntmps [(1, .dat (.seq .intss ts)), (7, .row 107), (8, .row 108), (11, .row 111), (12, .dat (.bool (bestTo ⟨w, mem, inn, c⟩ ts fuel m).2)), (13, .dat (.i m)), (14, .row 114), (15, .row 115), (63, .dat (.i ts.length)), (64, .dat (.i k))] [(107, .row 3 .ints (asc (allTo ⟨w, mem, inn, c⟩ ts fuel ts.length)) false), (108, .row 29 .intss (edgL ⟨w, mem, inn, c⟩ ts fuel) false), (111, .row 3 .ints (bestTo ⟨w, mem, inn, c⟩ ts fuel m).1 false), (114, .row 3 .ints (lstTo m k) false), (115, .row 3 .ints (gotTo ⟨w, mem, inn, c⟩ ts fuel m k) false)]) (Exists.intro (fun ⟨k, hk⟩ => ts.length - k) (Exists.intro ⟨0, Nat.zero_le _⟩ (And.intro (SubP.sub (σ := [(107, some 107), (108, some 108), (111, some 111), (114, none), (115, none)]) ⟨⟨rfl, rfl, rfl⟩, ⟨(wk_dat ?_), rfl, rfl, rfl, (wk_dat ?_), (wk_dat ?_), rfl, rfl, (wk_dat ?_), (wk_dat ?_), trivial⟩, ⟨⟨⟨rfl, rfl⟩, ?_⟩, ⟨⟨rfl, rfl⟩, ?_⟩, ⟨⟨rfl, rfl⟩, ?_⟩, ?_, ?_, trivial⟩⟩) (fun ⟨k, hk⟩ => ?_))))); rotate_right; conv => whnf)
    | (refine Exists.intro (⟨k + 1, ?_⟩ : {k : Nat // k ≤ ts.length}) (And.intro ?_ (SubP.sub (σ := [(107, some 107), (108, some 108), (111, some 111), (114, some 76), (115, some 82)]) ⟨⟨rfl, rfl, rfl⟩, ⟨(wk_dat ?_), rfl, rfl, rfl, (wk_dat ?_), (wk_dat ?_), rfl, rfl, (wk_dat ?_), (wk_dat ?_), trivial⟩, ⟨⟨⟨rfl, rfl⟩, ?_⟩, ⟨⟨rfl, rfl⟩, ?_⟩, ⟨⟨rfl, rfl⟩, ?_⟩, ⟨⟨rfl, rfl⟩, ?_⟩, ⟨⟨rfl, rfl⟩, ?_⟩, trivial⟩⟩)))
    | (refine Exists.intro (⟨k + 1, ?_⟩ : {k : Nat // k ≤ ts.length}) (And.intro ?_ (SubP.sub (σ := [(107, some 107), (108, some 108), (111, some 111), (114, some 114), (115, some 115)]) ⟨⟨rfl, rfl, rfl⟩, ⟨(wk_dat ?_), rfl, rfl, rfl, (wk_dat ?_), (wk_dat ?_), rfl, rfl, (wk_dat ?_), (wk_dat ?_), trivial⟩, ⟨⟨⟨rfl, rfl⟩, ?_⟩, ⟨⟨rfl, rfl⟩, ?_⟩, ⟨⟨rfl, rfl⟩, ?_⟩, ⟨⟨rfl, rfl⟩, ?_⟩, ⟨⟨rfl, rfl⟩, ?_⟩, trivial⟩⟩)))
    | (refine Exists.intro ({m : Nat // m ≤ 2 ^ ts.length}) (Exists.intro (fun ⟨m, hm⟩ => mkS Try.f49.ntmps [(1, .dat (.seq .intss ts)), (7, .row 107), (8, .row 108), (11, .row 111), (12, .dat (.bool (bestTo ⟨w, mem, inn, c⟩ ts fuel m).2)), (13, .dat (.i m))] [(107, .row 3 .ints (asc (allTo ⟨w, mem, inn, c⟩ ts fuel ts.length)) false), (108, .row 29 .intss (edgL ⟨w, mem, inn, c⟩ ts fuel) false), (111, .row 3 .ints (bestTo ⟨w, mem, inn, c⟩ ts fuel m).1 false)]) (Exists.intro (fun ⟨m, hm⟩ => 2 ^ ts.length - m) (Exists.intro ⟨0, Nat.zero_le _⟩ (And.intro (SubP.sub (σ := [(107, some 107), (108, some 108), (111, none)]) ⟨⟨rfl, rfl, rfl⟩, ⟨(wk_dat ?_), rfl, rfl, rfl, (wk_dat ?_), (wk_dat ?_), trivial⟩, ⟨⟨⟨rfl, rfl⟩, ?_⟩, ⟨⟨rfl, rfl⟩, ?_⟩, ?_, trivial⟩⟩) (fun ⟨m, hm⟩ => ?_))))); rotate_right; conv => whnf)
    | (refine Exists.intro (⟨m + 1, ?_⟩ : {m : Nat // m ≤ 2 ^ ts.length}) (And.intro ?_ (SubP.sub (σ := [(107, some 107), (108, some 108), (111, some 111)]) ⟨⟨rfl, rfl, rfl⟩, ⟨(wk_dat ?_), rfl, rfl, rfl, (wk_dat ?_), (wk_dat ?_), trivial⟩, ⟨⟨⟨rfl, rfl⟩, ?_⟩, ⟨⟨rfl, rfl⟩, ?_⟩, ⟨⟨rfl, rfl⟩, ?_⟩, trivial⟩⟩)))
    | (refine Exists.intro (⟨m + 1, ?_⟩ : {m : Nat // m ≤ 2 ^ ts.length}) (And.intro ?_ (SubP.sub (σ := [(107, some 107), (108, some 108), (111, some 114)]) ⟨⟨rfl, rfl, rfl⟩, ⟨(wk_dat ?_), rfl, rfl, rfl, (wk_dat ?_), (wk_dat ?_), trivial⟩, ⟨⟨⟨rfl, rfl⟩, ?_⟩, ⟨⟨rfl, rfl⟩, ?_⟩, ⟨⟨rfl, rfl⟩, ?_⟩, trivial⟩⟩)))
    | (refine Exists.intro ({k : Nat // k ≤ ts.length}) (Exists.intro (fun ⟨k, hk⟩ => mkS Try.f49.ntmps [(1, .dat (.seq .intss ts)), (2, .dat (.i fuel)), (3, .ptr 3 0), (7, .row 107), (8, .row 108), (39, .dat (.seq .intss ts)), (40, .dat (.i ts.length)), (41, .dat (.i k))] [(3, .box [.dat (.i w), .dat (.i mem), .dat (.i inn), .dat (.seq .inss c)]), (107, .row 3 .ints (asc (allTo ⟨w, mem, inn, c⟩ ts fuel ts.length)) false), (108, .row 29 .intss ((edgL ⟨w, mem, inn, c⟩ ts fuel).take k ++ List.replicate (ts.length - k) []) false)]) (Exists.intro (fun ⟨k, hk⟩ => ts.length - k) (Exists.intro ⟨0, Nat.zero_le _⟩ (And.intro (SubP.sub (σ := [(3, some 3), (107, some 36000), (108, some 38)]) ⟨⟨rfl, rfl, rfl⟩, ⟨(wk_dat ?_), (wk_dat ?_), ⟨rfl, rfl⟩, rfl, rfl, (wk_dat ?_), (wk_dat ?_), (wk_dat ?_), trivial⟩, ⟨⟨(wkC_dat ?_), (wkC_dat ?_), (wkC_dat ?_), (wkC_dat ?_), trivial⟩, ⟨⟨rfl, rfl⟩, ?_⟩, ⟨⟨rfl, rfl⟩, ?_⟩, trivial⟩⟩) (fun ⟨k, hk⟩ => ?_))))); rotate_right; conv => whnf)
    | (refine Exists.intro (⟨k + 1, ?_⟩ : {k : Nat // k ≤ ts.length}) (And.intro ?_ (SubP.sub (σ := [(3, some 3), (107, some 107), (108, some 108)]) ⟨⟨rfl, rfl, rfl⟩, ⟨(wk_dat ?_), (wk_dat ?_), ⟨rfl, rfl⟩, rfl, rfl, (wk_dat ?_), (wk_dat ?_), (wk_dat ?_), trivial⟩, ⟨⟨(wkC_dat ?_), (wkC_dat ?_), (wkC_dat ?_), (wkC_dat ?_), trivial⟩, ⟨⟨rfl, rfl⟩, ?_⟩, ⟨⟨rfl, rfl⟩, ?_⟩, trivial⟩⟩)))
    | ((with_reducible refine pcI (g := 66) ?_); refine ⟨_, i_testsOk .., rfl, ?_⟩; rotate_right; conv => whnf)
    | ((with_reducible show Exists _); refine Exists.intro _ (And.intro (i_testsOk ..) (And.intro rfl ?_)); rotate_right; conv => whnf)
    | ((with_reducible refine pcI (g := 67) ?_); refine ⟨_, i_fuelOk .., rfl, ?_⟩; rotate_right; conv => whnf)
    | ((with_reducible show Exists _); refine Exists.intro _ (And.intro (i_fuelOk ..) (And.intro rfl ?_)); rotate_right; conv => whnf)
    | ((with_reducible refine fcI (g := 41) ?_); refine ⟨_, _, i_CalOk (h3 := by assumption) (hf := by assumption) (hl := ?_) .., rfl, fun res B hRB => ?_⟩; rotate_right; obtain ⟨rfl, rfl⟩ := hRB; conv => whnf)
    | ((with_reducible refine pcI (g := 41) ?_); refine ⟨_, i_Cal0 (hx := by assumption) .., rfl, ?_⟩; rotate_right; conv => whnf)
    | ((with_reducible show Exists _); refine Exists.intro _ (And.intro (i_Cal0 (hx := by assumption) ..) (And.intro rfl ?_)); rotate_right; conv => whnf)
    | ((with_reducible refine fcI (g := 41) ?_); refine ⟨_, _, i_CalR (hx := by assumption) (hl := ?_) .., rfl, fun res B hRB => ?_⟩; rotate_right; obtain ⟨rfl, rfl⟩ := hRB; conv => whnf)
    | ((with_reducible refine pcI (g := 41) ?_); refine ⟨_, i_CalN (hx := by assumption) .., rfl, ?_⟩; rotate_right; conv => whnf)
    | ((with_reducible show Exists _); refine Exists.intro _ (And.intro (i_CalN (hx := by assumption) ..) (And.intro rfl ?_)); rotate_right; conv => whnf)
    | ((with_reducible refine fcI (g := 41) ?_); refine ⟨_, _, i_CalOk (h3 := ?_) (hf := ?_) (hl := ?_) .., rfl, fun res B hRB => ?_⟩; rotate_right; obtain ⟨rfl, rfl⟩ := hRB; conv => whnf)
    | ((with_reducible refine fcI (g := 97) ?_); refine ⟨_, _, i_edgesOf (hp := by assumption) (hi := by assumption) (hf := by assumption) .., rfl, fun res B hRB => ?_⟩; rotate_right; obtain ⟨rfl, rfl⟩ := hRB; conv => whnf)
    | ((with_reducible refine fcI (g := 97) ?_); refine ⟨_, _, i_edgesOf (hp := ?_) (hi := ?_) (hf := ?_) .., rfl, fun res B hRB => ?_⟩; rotate_right; obtain ⟨rfl, rfl⟩ := hRB; conv => whnf)
    | ((with_reducible refine pcI (g := 100) ?_); refine ⟨_, i_Equal .., rfl, ?_⟩; rotate_right; conv => whnf)
    | ((with_reducible show Exists _); refine Exists.intro _ (And.intro (i_Equal ..) (And.intro rfl ?_)); rotate_right; conv => whnf)
    | ((with_reducible refine gcI (g := 90) ?_); refine ⟨_, _, i_ascending (hl := ?_) .., fun res B hRB => ?_⟩; rotate_right; obtain ⟨rfl, rfl⟩ := hRB; conv => whnf)
    | ((with_reducible refine pcI (g := 101) ?_); refine ⟨_, x_CompareL .., rfl, ?_⟩; rotate_right; conv => whnf)
    | ((with_reducible show Exists _); refine Exists.intro _ (And.intro (x_CompareL ..) (And.intro rfl ?_)); rotate_right; conv => whnf)
    | ((with_reducible show awpOps _ _ _ _ _ _); conv => whnf)
    | (intro h; conv => whnf))
  all_goals (repeat (clear hK; clear K1))
  all_goals first
    | (with_reducible assumption)
    | (with_reducible rfl)
    | exact sig_fin (congrArg Prod.fst (acc_i1 (by with_reducible assumption) hk (by with_reducible assumption) (by with_reducible assumption)))
    | exact congrArg Dat.bool (congrArg Prod.snd (acc_i1 (by with_reducible assumption) hk (by with_reducible assumption) (by with_reducible assumption)))
    | exact sig_fin (congrArg Prod.fst (acc_i2 h10 (by with_reducible assumption) hk (by with_reducible assumption) (by with_reducible assumption)))
    | exact congrArg Dat.bool (congrArg Prod.snd (acc_i2 h10 (by with_reducible assumption) hk (by with_reducible assumption) (by with_reducible assumption)))
    | exact sig_fin (congrArg Prod.fst (acc_i3 h10 (by with_reducible assumption) hk (by with_reducible assumption) (by with_reducible assumption) (by with_reducible assumption)))
    | exact congrArg Dat.bool (congrArg Prod.snd (acc_i3 h10 (by with_reducible assumption) hk (by with_reducible assumption) (by with_reducible assumption) (by with_reducible assumption)))
    | exact sig_fin (congrArg Prod.fst (nacc0 (by with_reducible assumption) hk (by with_reducible assumption)))
    | exact congrArg Dat.bool (congrArg Prod.snd (nacc0 (by with_reducible assumption) hk (by with_reducible assumption)))
    | exact sig_fin (congrArg Prod.fst (nacc_i1 h10 (by with_reducible assumption) hk (by with_reducible assumption) (by with_reducible assumption) (by with_reducible assumption)))
    | exact congrArg Dat.bool (congrArg Prod.snd (nacc_i1 h10 (by with_reducible assumption) hk (by with_reducible assumption) (by with_reducible assumption) (by with_reducible assumption)))
    | exact sig_fin (congrArg Prod.fst (nacc_i2 h10 (by with_reducible assumption) hk (by with_reducible assumption) (by with_reducible assumption) (by with_reducible assumption)))
    | exact congrArg Dat.bool (congrArg Prod.snd (nacc_i2 h10 (by with_reducible assumption) hk (by with_reducible assumption) (by with_reducible assumption) (by with_reducible assumption)))
    | exact sig_fin (lst_y (bit_yu (by omega) (by with_reducible assumption)))
    | exact sig_fin (lst_n (bit_nu (by omega) (by with_reducible assumption)))
    | exact sig_fin (got_yr (by with_reducible assumption) (bit_yu (by omega) (by with_reducible assumption)))
    | exact sig_fin (got_n (bit_nu (by omega) (by with_reducible assumption)))
    | exact sig_fin (edg_set (by with_reducible assumption))
    | exact sig_fin (edg_end (by with_reducible assumption))
    | exact sh_r h10
    | exact sh_r (by omega)
    | exact mask_lt h10 (by with_reducible assumption)
    | exact mask_lt' h10 (by with_reducible assumption)
    | exact mask_w h10 hm
    | exact Int.natCast_nonneg _
    | exact row_fin (by rw [mask_ge h10 hm (by with_reducible assumption)])
    | exact row_fin (by rw [mask_ge' h10 hm (by with_reducible assumption)])
    | (have q := mask_lt h10 (by with_reducible assumption); dsimp only; omega)
    | (have q := mask_lt' h10 (by with_reducible assumption); dsimp only; omega)
    | exact congrArg (Dat.int .i64) (wrap_id (by omega) (by omega)).symm
    | exact (rfl : Dat.i ((0 : Nat) : Int) = Dat.int .i64 0)
    | exact inp_p (all_at h3 (by with_reducible assumption))
    | exact all_at h3 (by with_reducible assumption)
    | (rw [Int.toNat_natCast]; exact all_at h3 (by with_reducible assumption))
    | (exact inp_p (by rw [Int.toNat_natCast]; exact all_at h3 (by with_reducible assumption)))
    | (have q := lst_len m k; have hm2 : maxLen = 9223372036854775807 := rfl; show (lstTo m k).length + 1 ≤ maxLen; omega)
    | (have q := lst_len m k; show ((lstTo m k).length + 1) * 8 ≤ 140737488355328; omega)
    | (have q := some_len ts m k; have hm2 : maxLen = 9223372036854775807 := rfl; show (someTo ts m k).length + 1 ≤ maxLen; omega)
    | (have q := some_len ts m k; show ((someTo ts m k).length + 1) * 24 ≤ 140737488355328; omega)
    | (have q := some_len ts m k; omega)
    | (have q := got_cap (p := ⟨w, mem, inn, c⟩) (m := m) hf h10 (by with_reducible assumption); have hm2 : maxLen = 9223372036854775807 := rfl; show (gotTo ⟨w, mem, inn, c⟩ ts fuel m k).length + ((edgL ⟨w, mem, inn, c⟩ ts fuel).getD (k : Int).toNat K.intss.dflt).length ≤ maxLen; omega)
    | (have q := got_cap (p := ⟨w, mem, inn, c⟩) (m := m) hf h10 (by with_reducible assumption); show ((gotTo ⟨w, mem, inn, c⟩ ts fuel m k).length + ((edgL ⟨w, mem, inn, c⟩ ts fuel).getD (k : Int).toNat K.intss.dflt).length) * 8 ≤ 140737488355328; omega)
    | (have q := got_len (p := ⟨w, mem, inn, c⟩) (ts := ts) hf m k; show (gotTo ⟨w, mem, inn, c⟩ ts fuel m k).length ≤ 1000000000; omega)
    | (rw [edgL_len]; omega)
    | omega
    | (dsimp only; omega)
    | (simp only [List.length_append, List.length_take, List.length_replicate, edgL_len]; omega)
    | (show (_ : Int) * ((24 : Nat) : Int) ≤ _; omega)
    | (have hm2 : maxLen = 9223372036854775807 := rfl; omega)
    | rfl
    | exact rfl
    | skip
set_option maxRecDepth 100000 in
theorem i_Sui0 (w mem inn : Int) (c : List V.Ins) (ts : List (List Int)) (fuel : Int) (hx : suiOk ⟨w, mem, inn, c⟩ ts fuel = false) : CallsV Try.prog 49 [.agg [.dat (.i w), .dat (.i mem), .dat (.i inn), .dat (.seq .inss c)], .dat (.seq .intss ts), .dat (.i fuel)] (.nils) := by
  refine CallsV.of_awp tauOk mixOk Try.func49 rfl rfl rfl ?_
  conv => whnf
  repeat' (first
    | ((with_reducible refine fun (K1 : AX → AState → Prop) hK => ?_); (with_reducible refine awp_rg ?_ ?_); exact rfl; conv => whnf)
    | ((with_reducible refine Alt.l ?_); conv => whnf)
    | ((with_reducible refine fun (K1 : AX → AState → Prop) hK => ?_); conv => whnf)
    | ((with_reducible show K1 _ _); subst hK; conv => whnf)
    | (with_reducible exact rfl)
    | ((with_reducible refine sp_T ?_); conv => whnf)
    | ((with_reducible refine sp_F ?_); conv => whnf)
    | ((with_reducible refine sp_T' ?_); conv => whnf)
    | ((with_reducible refine sp_F' ?_); conv => whnf)
    | ((with_reducible refine sp_dF ?_ ?_); decide; conv => whnf)
    | ((with_reducible refine sp_dT ?_ ?_); decide; conv => whnf)
    | ((with_reducible refine sp_d (fun h => ?_) (fun h => ?_)) <;> first | contradiction | (subst h; conv => whnf) | (conv => whnf))
    | ((with_reducible refine sp_d' (fun h => ?_) (fun h => ?_)) <;> first | contradiction | (subst h; conv => whnf) | (conv => whnf))
    | ((with_reducible refine sp_eF ?_ ?_); decide; conv => whnf)
    | ((with_reducible refine sp_eT ?_); conv => whnf)
    | ((with_reducible refine sp_e (fun h => ?_) (fun h => ?_)) <;> first | contradiction | (subst h; conv => whnf) | (conv => whnf))
    | ((with_reducible refine sp_e' (fun h => ?_) (fun h => ?_)) <;> first | contradiction | (subst h; conv => whnf) | (conv => whnf))
    | ((with_reducible refine sp_n (fun h => ?_) (fun h => ?_)) <;> first | contradiction | (subst h; conv => whnf) | (conv => whnf))
    | ((with_reducible refine sp_n' (fun h => ?_) (fun h => ?_)) <;> first | contradiction | (subst h; conv => whnf) | (conv => whnf))
    | ((with_reducible refine sp_nb (fun h => ?_) (fun h => ?_)) <;> first | (exact Bool.noConfusion (Eq.trans (Eq.symm h) (show _ = true by with_reducible assumption))) | (exact Bool.noConfusion (Eq.trans (Eq.symm (show _ = false by with_reducible assumption)) h)) | (conv => whnf))
    | ((with_reducible refine sp_nb' (fun h => ?_) (fun h => ?_)) <;> first | (exact Bool.noConfusion (Eq.trans (Eq.symm h) (show _ = true by with_reducible assumption))) | (exact Bool.noConfusion (Eq.trans (Eq.symm (show _ = false by with_reducible assumption)) h)) | (conv => whnf))
    | ((with_reducible refine sp_b (fun h => ?_) (fun h => ?_)) <;> first | (exact Bool.noConfusion (Eq.trans (Eq.symm h) (show _ = true by with_reducible assumption))) | (exact Bool.noConfusion (Eq.trans (Eq.symm (show _ = false by with_reducible assumption)) h)) | (conv => whnf))
    | ((with_reducible refine sp_b' (fun h => ?_) (fun h => ?_)) <;> first | (exact Bool.noConfusion (Eq.trans (Eq.symm h) (show _ = true by with_reducible assumption))) | (exact Bool.noConfusion (Eq.trans (Eq.symm (show _ = false by with_reducible assumption)) h)) | (conv => whnf))
    | (refine ⟨(rfl : nodupB _ = true), rfl, ?_⟩; conv => whnf)
    | (with_reducible refine bnd2 ?_ ?_)
    | (with_reducible refine bnd2' ?_ ?_)
    | (with_reducible refine bndN ?_ ?_)
    | ((with_reducible refine and_of ?_ ?_); conv => whnf)
    | ((with_reducible refine pcI (g := 66) ?_); refine ⟨_, i_testsOk .., rfl, ?_⟩; rotate_right; conv => whnf)
    | ((with_reducible show Exists _); refine Exists.intro _ (And.intro (i_testsOk ..) (And.intro rfl ?_)); rotate_right; conv => whnf)
    | ((with_reducible refine pcI (g := 67) ?_); refine ⟨_, i_fuelOk .., rfl, ?_⟩; rotate_right; conv => whnf)
    | ((with_reducible show Exists _); refine Exists.intro _ (And.intro (i_fuelOk ..) (And.intro rfl ?_)); rotate_right; conv => whnf)
    | ((with_reducible refine fcI (g := 41) ?_); refine ⟨_, _, i_CalOk (h3 := by assumption) (hf := by assumption) (hl := ?_) .., rfl, fun res B hRB => ?_⟩; rotate_right; obtain ⟨rfl, rfl⟩ := hRB; conv => whnf)
    | ((with_reducible refine pcI (g := 41) ?_); refine ⟨_, i_Cal0 (hx := by assumption) .., rfl, ?_⟩; rotate_right; conv => whnf)
    | ((with_reducible show Exists _); refine Exists.intro _ (And.intro (i_Cal0 (hx := by assumption) ..) (And.intro rfl ?_)); rotate_right; conv => whnf)
    | ((with_reducible refine fcI (g := 41) ?_); refine ⟨_, _, i_CalR (hx := by assumption) (hl := ?_) .., rfl, fun res B hRB => ?_⟩; rotate_right; obtain ⟨rfl, rfl⟩ := hRB; conv => whnf)
    | ((with_reducible refine pcI (g := 41) ?_); refine ⟨_, i_CalN (hx := by assumption) .., rfl, ?_⟩; rotate_right; conv => whnf)
    | ((with_reducible show Exists _); refine Exists.intro _ (And.intro (i_CalN (hx := by assumption) ..) (And.intro rfl ?_)); rotate_right; conv => whnf)
    | ((with_reducible refine fcI (g := 41) ?_); refine ⟨_, _, i_CalOk (h3 := ?_) (hf := ?_) (hl := ?_) .., rfl, fun res B hRB => ?_⟩; rotate_right; obtain ⟨rfl, rfl⟩ := hRB; conv => whnf)
    | ((with_reducible refine fcI (g := 97) ?_); refine ⟨_, _, i_edgesOf (hp := by assumption) (hi := by assumption) (hf := by assumption) .., rfl, fun res B hRB => ?_⟩; rotate_right; obtain ⟨rfl, rfl⟩ := hRB; conv => whnf)
    | ((with_reducible refine fcI (g := 97) ?_); refine ⟨_, _, i_edgesOf (hp := ?_) (hi := ?_) (hf := ?_) .., rfl, fun res B hRB => ?_⟩; rotate_right; obtain ⟨rfl, rfl⟩ := hRB; conv => whnf)
    | ((with_reducible refine pcI (g := 100) ?_); refine ⟨_, i_Equal .., rfl, ?_⟩; rotate_right; conv => whnf)
    | ((with_reducible show Exists _); refine Exists.intro _ (And.intro (i_Equal ..) (And.intro rfl ?_)); rotate_right; conv => whnf)
    | ((with_reducible refine gcI (g := 90) ?_); refine ⟨_, _, i_ascending (hl := ?_) .., fun res B hRB => ?_⟩; rotate_right; obtain ⟨rfl, rfl⟩ := hRB; conv => whnf)
    | ((with_reducible refine pcI (g := 101) ?_); refine ⟨_, x_CompareL .., rfl, ?_⟩; rotate_right; conv => whnf)
    | ((with_reducible show Exists _); refine Exists.intro _ (And.intro (x_CompareL ..) (And.intro rfl ?_)); rotate_right; conv => whnf)
    | ((with_reducible show awpOps _ _ _ _ _ _); conv => whnf)
    | (intro h; conv => whnf))
  all_goals (repeat (clear hK; clear K1))
  all_goals first | (with_reducible exact trivial) | (exfalso; simp_all [suiOk]; done) | (exfalso; simp_all [suiOk]; omega) | skip
set_option maxHeartbeats 8000000 in
set_option maxRecDepth 100000 in
theorem s_SuiOk (w mem inn : Int) (c : List V.Ins) (ts : List (List Int)) (fuel : Int) (h10 : ts.length ≤ 10) (h3 : ts.all (fun x => inputsP ⟨w, mem, inn, c⟩ x) = true) (hf : inP fuel 0 400 = true) : CallsF Try.prog 52 [.agg [.dat (.i w), .dat (.i mem), .dat (.i inn), .dat (.seq .inss c)], .dat (.seq .intss ts), .dat (.i fuel)] true (fun res B => res = .row 0 ∧ B = [.row 3 .ints (bestTo ⟨w, mem, inn, c⟩ ts fuel (2 ^ ts.length)).1 false]) := by
  refine CallsF.of_awp tauOk mixOk Try.func52 rfl rfl rfl ?_
  conv => whnf
  repeat' (first
    | ((with_reducible refine fun (K1 : AX → AState → Prop) hK => ?_); (with_reducible refine awp_rg ?_ ?_); exact rfl; conv => whnf)
    | ((with_reducible refine Alt.l ?_); conv => whnf)
    | ((with_reducible refine fun (K1 : AX → AState → Prop) hK => ?_); conv => whnf)
    | ((with_reducible show K1 _ _); subst hK; conv => whnf)
    | (with_reducible exact rfl)
    | ((with_reducible refine sp_T ?_); conv => whnf)
    | ((with_reducible refine sp_F ?_); conv => whnf)
    | ((with_reducible refine sp_T' ?_); conv => whnf)
    | ((with_reducible refine sp_F' ?_); conv => whnf)
    | ((with_reducible refine sp_dF ?_ ?_); decide; conv => whnf)
    | ((with_reducible refine sp_dT ?_ ?_); decide; conv => whnf)
    | ((with_reducible refine sp_d (fun h => ?_) (fun h => ?_)) <;> first | contradiction | (subst h; conv => whnf) | (conv => whnf))
    | ((with_reducible refine sp_d' (fun h => ?_) (fun h => ?_)) <;> first | contradiction | (subst h; conv => whnf) | (conv => whnf))
    | ((with_reducible refine sp_eF ?_ ?_); decide; conv => whnf)
    | ((with_reducible refine sp_eT ?_); conv => whnf)
    | ((with_reducible refine sp_e (fun h => ?_) (fun h => ?_)) <;> first | contradiction | (subst h; conv => whnf) | (conv => whnf))
    | ((with_reducible refine sp_e' (fun h => ?_) (fun h => ?_)) <;> first | contradiction | (subst h; conv => whnf) | (conv => whnf))
    | ((with_reducible refine sp_n (fun h => ?_) (fun h => ?_)) <;> first | contradiction | (subst h; conv => whnf) | (conv => whnf))
    | ((with_reducible refine sp_n' (fun h => ?_) (fun h => ?_)) <;> first | contradiction | (subst h; conv => whnf) | (conv => whnf))
    | ((with_reducible refine sp_nb (fun h => ?_) (fun h => ?_)) <;> first | (exact Bool.noConfusion (Eq.trans (Eq.symm h) (show _ = true by with_reducible assumption))) | (exact Bool.noConfusion (Eq.trans (Eq.symm (show _ = false by with_reducible assumption)) h)) | (conv => whnf))
    | ((with_reducible refine sp_nb' (fun h => ?_) (fun h => ?_)) <;> first | (exact Bool.noConfusion (Eq.trans (Eq.symm h) (show _ = true by with_reducible assumption))) | (exact Bool.noConfusion (Eq.trans (Eq.symm (show _ = false by with_reducible assumption)) h)) | (conv => whnf))
    | ((with_reducible refine sp_b (fun h => ?_) (fun h => ?_)) <;> first | (exact Bool.noConfusion (Eq.trans (Eq.symm h) (show _ = true by with_reducible assumption))) | (exact Bool.noConfusion (Eq.trans (Eq.symm (show _ = false by with_reducible assumption)) h)) | (conv => whnf))
    | ((with_reducible refine sp_b' (fun h => ?_) (fun h => ?_)) <;> first | (exact Bool.noConfusion (Eq.trans (Eq.symm h) (show _ = true by with_reducible assumption))) | (exact Bool.noConfusion (Eq.trans (Eq.symm (show _ = false by with_reducible assumption)) h)) | (conv => whnf))
    | (refine ⟨(rfl : nodupB _ = true), rfl, ?_⟩; conv => whnf)
    | (with_reducible refine bnd2 ?_ ?_)
    | (with_reducible refine bnd2' ?_ ?_)
    | (with_reducible refine bndN ?_ ?_)
    | ((with_reducible refine and_of ?_ ?_); conv => whnf)
    | (refine Exists.intro ({k : Nat // k ≤ ts.length}) (Exists.intro (fun ⟨k, hk⟩ => mkS Try.f52.ntmps [(1, .dat (.seq .intss ts)), (2, .dat (.i fuel)), (3, .ptr 3 0), (7, .row 107), (8, .row 108), (9, .dat (.bool (bestTo ⟨w, mem, inn, c⟩ ts fuel m).2)), (10, .dat (.i m)), (11, .row 111), (12, .row 112), (43, .dat (.seq .intss ts)), (44, .dat (.i ts.length)), (45, .dat (.i k))] [(3, .box [.dat (.i w), .dat (.i mem), .dat (.i inn), .dat (.seq .inss c)]), (107, .row 3 .ints (asc (allTo ⟨w, mem, inn, c⟩ ts fuel ts.length)) false), (108, .row 3 .ints (bestTo ⟨w, mem, inn, c⟩ ts fuel m).1 false), (111, .row 3 .ints (lstTo m k) false), (112, .row 29 .intss (someTo ts m k) false)]) (Exists.intro (fun ⟨k, hk⟩ => ts.length - k) (Exists.intro ⟨0, Nat.zero_le _⟩ (And.intro (SubP.sub (σ := [(3, some 3), (107, some 107), (108, some 108), (111, some 41), (112, some 42)]) ⟨⟨rfl, rfl, rfl⟩, ⟨(wk_dat ?_), (wk_dat ?_), ⟨rfl, rfl⟩, rfl, rfl, (wk_dat ?_), (wk_dat ?_), rfl, rfl, (wk_dat ?_), (wk_dat ?_), (wk_dat ?_), trivial⟩, ⟨⟨(wkC_dat ?_), (wkC_dat ?_), (wkC_dat ?_), (wkC_dat ?_), trivial⟩, ⟨⟨rfl, rfl⟩, ?_⟩, ⟨⟨rfl, rfl⟩, ?_⟩, ⟨⟨rfl, rfl⟩, ?_⟩, ⟨⟨rfl, rfl⟩, ?_⟩, trivial⟩⟩) (fun ⟨k, hk⟩ => ?_))))); rotate_right; conv => whnf)
    | (refine Exists.intro (⟨k + 1, ?_⟩ : {k : Nat // k ≤ ts.length}) (And.intro ?_ (SubP.sub (σ := [(3, some 3), (107, some 107), (108, some 108), (111, some 58), (112, some 62)]) ⟨⟨rfl, rfl, rfl⟩, ⟨(wk_dat ?_), (wk_dat ?_), ⟨rfl, rfl⟩, rfl, rfl, (wk_dat ?_), (wk_dat ?_), rfl, rfl, (wk_dat ?_), (wk_dat ?_), (wk_dat ?_), trivial⟩, ⟨⟨(wkC_dat ?_), (wkC_dat ?_), (wkC_dat ?_), (wkC_dat ?_), trivial⟩, ⟨⟨rfl, rfl⟩, ?_⟩, ⟨⟨rfl, rfl⟩, ?_⟩, ⟨⟨rfl, rfl⟩, ?_⟩, ⟨⟨rfl, rfl⟩, ?_⟩, trivial⟩⟩)))
    | (refine Exists.intro (⟨k + 1, ?_⟩ : {k : Nat // k ≤ ts.length}) (And.intro ?_ (SubP.sub (σ := [(3, some 3), (107, some 107), (108, some 108), (111, some 111), (112, some 112)]) ⟨⟨rfl, rfl, rfl⟩, ⟨(wk_dat ?_), (wk_dat ?_), ⟨rfl, rfl⟩, rfl, rfl, (wk_dat ?_), (wk_dat ?_), rfl, rfl, (wk_dat ?_), (wk_dat ?_), (wk_dat ?_), trivial⟩, ⟨⟨(wkC_dat ?_), (wkC_dat ?_), (wkC_dat ?_), (wkC_dat ?_), trivial⟩, ⟨⟨rfl, rfl⟩, ?_⟩, ⟨⟨rfl, rfl⟩, ?_⟩, ⟨⟨rfl, rfl⟩, ?_⟩, ⟨⟨rfl, rfl⟩, ?_⟩, trivial⟩⟩)))
    | (refine Exists.intro ({m : Nat // m ≤ 2 ^ ts.length}) (Exists.intro (fun ⟨m, hm⟩ => mkS Try.f52.ntmps [(1, .dat (.seq .intss ts)), (2, .dat (.i fuel)), (3, .ptr 3 0), (7, .row 107), (8, .row 108), (9, .dat (.bool (bestTo ⟨w, mem, inn, c⟩ ts fuel m).2)), (10, .dat (.i m))] [(3, .box [.dat (.i w), .dat (.i mem), .dat (.i inn), .dat (.seq .inss c)]), (107, .row 3 .ints (asc (allTo ⟨w, mem, inn, c⟩ ts fuel ts.length)) false), (108, .row 3 .ints (bestTo ⟨w, mem, inn, c⟩ ts fuel m).1 false)]) (Exists.intro (fun ⟨m, hm⟩ => 2 ^ ts.length - m) (Exists.intro ⟨0, Nat.zero_le _⟩ (And.intro (SubP.sub (σ := [(3, some 3), (107, some 33000), (108, some 33)]) ⟨⟨rfl, rfl, rfl⟩, ⟨(wk_dat ?_), (wk_dat ?_), ⟨rfl, rfl⟩, rfl, rfl, (wk_dat ?_), (wk_dat ?_), trivial⟩, ⟨⟨(wkC_dat ?_), (wkC_dat ?_), (wkC_dat ?_), (wkC_dat ?_), trivial⟩, ⟨⟨rfl, rfl⟩, ?_⟩, ⟨⟨rfl, rfl⟩, ?_⟩, trivial⟩⟩) (fun ⟨m, hm⟩ => ?_))))); rotate_right; conv => whnf)
    | (refine Exists.intro (⟨m + 1, ?_⟩ : {m : Nat // m ≤ 2 ^ ts.length}) (And.intro ?_ (SubP.sub (σ := [(3, some 3), (107, some 107), (108, some 108)]) ⟨⟨rfl, rfl, rfl⟩, ⟨(wk_dat ?_), (wk_dat ?_), ⟨rfl, rfl⟩, rfl, rfl, (wk_dat ?_), (wk_dat ?_), trivial⟩, ⟨⟨(wkC_dat ?_), (wkC_dat ?_), (wkC_dat ?_), (wkC_dat ?_), trivial⟩, ⟨⟨rfl, rfl⟩, ?_⟩, ⟨⟨rfl, rfl⟩, ?_⟩, trivial⟩⟩)))
    | (refine Exists.intro (⟨m + 1, ?_⟩ : {m : Nat // m ≤ 2 ^ ts.length}) (And.intro ?_ (SubP.sub (σ := [(3, some 3), (107, some 107), (108, some 111)]) ⟨⟨rfl, rfl, rfl⟩, ⟨(wk_dat ?_), (wk_dat ?_), ⟨rfl, rfl⟩, rfl, rfl, (wk_dat ?_), (wk_dat ?_), trivial⟩, ⟨⟨(wkC_dat ?_), (wkC_dat ?_), (wkC_dat ?_), (wkC_dat ?_), trivial⟩, ⟨⟨rfl, rfl⟩, ?_⟩, ⟨⟨rfl, rfl⟩, ?_⟩, trivial⟩⟩)))
    | ((with_reducible refine pcI (g := 93) ?_); refine ⟨_, s_l09Tests .., rfl, ?_⟩; rotate_right; conv => whnf)
    | ((with_reducible show Exists _); refine Exists.intro _ (And.intro (s_l09Tests ..) (And.intro rfl ?_)); rotate_right; conv => whnf)
    | ((with_reducible refine pcI (g := 63) ?_); refine ⟨_, s_l01In .., rfl, ?_⟩; rotate_right; conv => whnf)
    | ((with_reducible show Exists _); refine Exists.intro _ (And.intro (s_l01In ..) (And.intro rfl ?_)); rotate_right; conv => whnf)
    | ((with_reducible refine fcI (g := 38) ?_); refine ⟨_, _, s_CalOk (h3 := by assumption) (hf := by assumption) (hl := ?_) .., rfl, fun res B hRB => ?_⟩; rotate_right; obtain ⟨rfl, rfl⟩ := hRB; conv => whnf)
    | ((with_reducible refine pcI (g := 38) ?_); refine ⟨_, s_Cal0 (hx := by assumption) .., rfl, ?_⟩; rotate_right; conv => whnf)
    | ((with_reducible show Exists _); refine Exists.intro _ (And.intro (s_Cal0 (hx := by assumption) ..) (And.intro rfl ?_)); rotate_right; conv => whnf)
    | ((with_reducible refine fcI (g := 38) ?_); refine ⟨_, _, s_CalR (hx := by assumption) (hl := ?_) .., rfl, fun res B hRB => ?_⟩; rotate_right; obtain ⟨rfl, rfl⟩ := hRB; conv => whnf)
    | ((with_reducible refine pcI (g := 38) ?_); refine ⟨_, s_CalN (hx := by assumption) .., rfl, ?_⟩; rotate_right; conv => whnf)
    | ((with_reducible show Exists _); refine Exists.intro _ (And.intro (s_CalN (hx := by assumption) ..) (And.intro rfl ?_)); rotate_right; conv => whnf)
    | ((with_reducible refine fcI (g := 38) ?_); refine ⟨_, _, s_CalOk (h3 := ?_) (hf := ?_) (hl := ?_) .., rfl, fun res B hRB => ?_⟩; rotate_right; obtain ⟨rfl, rfl⟩ := hRB; conv => whnf)
    | ((with_reducible refine pcI (g := 102) ?_); refine ⟨_, s_l09Less (hab := ?_) .., rfl, ?_⟩; rotate_right; conv => whnf)
    | ((with_reducible show Exists _); refine Exists.intro _ (And.intro (s_l09Less (hab := ?_) ..) (And.intro rfl ?_)); rotate_right; conv => whnf)
    | ((with_reducible refine pcI (g := 69) ?_); refine ⟨_, s_l05Ints .., rfl, ?_⟩; rotate_right; conv => whnf)
    | ((with_reducible show Exists _); refine Exists.intro _ (And.intro (s_l05Ints ..) (And.intro rfl ?_)); rotate_right; conv => whnf)
    | ((with_reducible show awpOps _ _ _ _ _ _); conv => whnf)
    | (intro h; conv => whnf))
  all_goals (repeat (clear hK; clear K1))
  all_goals first
    | (with_reducible assumption)
    | (with_reducible rfl)
    | exact sig_fin (congrArg Prod.fst (acc_s1 (by with_reducible assumption) hk (by with_reducible assumption) (by with_reducible assumption)))
    | exact congrArg Dat.bool (congrArg Prod.snd (acc_s1 (by with_reducible assumption) hk (by with_reducible assumption) (by with_reducible assumption)))
    | exact sig_fin (congrArg Prod.fst (acc_s2 (by with_reducible assumption) hk (by with_reducible assumption) (by with_reducible assumption) (by with_reducible assumption)))
    | exact congrArg Dat.bool (congrArg Prod.snd (acc_s2 (by with_reducible assumption) hk (by with_reducible assumption) (by with_reducible assumption) (by with_reducible assumption)))
    | exact sig_fin (congrArg Prod.fst (acc_s3 (by with_reducible assumption) hk (by with_reducible assumption) (by with_reducible assumption) (by with_reducible assumption)))
    | exact congrArg Dat.bool (congrArg Prod.snd (acc_s3 (by with_reducible assumption) hk (by with_reducible assumption) (by with_reducible assumption) (by with_reducible assumption)))
    | exact sig_fin (congrArg Prod.fst (nacc_s0 (by with_reducible assumption) hk (by with_reducible assumption)))
    | exact congrArg Dat.bool (congrArg Prod.snd (nacc_s0 (by with_reducible assumption) hk (by with_reducible assumption)))
    | exact sig_fin (congrArg Prod.fst (nacc_s1 (by with_reducible assumption) hk (by with_reducible assumption) (by with_reducible assumption)))
    | exact congrArg Dat.bool (congrArg Prod.snd (nacc_s1 (by with_reducible assumption) hk (by with_reducible assumption) (by with_reducible assumption)))
    | exact sig_fin (congrArg Prod.fst (nacc_s2 (by with_reducible assumption) hk (by with_reducible assumption) (by with_reducible assumption) (by with_reducible assumption)))
    | exact congrArg Dat.bool (congrArg Prod.snd (nacc_s2 (by with_reducible assumption) hk (by with_reducible assumption) (by with_reducible assumption) (by with_reducible assumption)))
    | exact sig_fin (lst_y (bit_y (by with_reducible assumption)))
    | exact sig_fin (lst_n (bit_n (by with_reducible assumption)))
    | exact sig_fin (some_yr (bit_y (by with_reducible assumption)))
    | exact sig_fin (some_n (bit_n (by with_reducible assumption)))
    | exact some_ok h3 m k hk
    | exact (Int.ofNat.inj (by with_reducible assumption))
    | exact mask_lt h10 (by with_reducible assumption)
    | exact mask_lt' h10 (by with_reducible assumption)
    | exact mask_w h10 hm
    | exact Int.natCast_nonneg _
    | exact row_fin (by rw [mask_ge h10 hm (by with_reducible assumption)])
    | exact row_fin (by rw [mask_ge' h10 hm (by with_reducible assumption)])
    | (have q := mask_lt h10 (by with_reducible assumption); dsimp only; omega)
    | (have q := mask_lt' h10 (by with_reducible assumption); dsimp only; omega)
    | exact congrArg (Dat.int .i64) (wrap_id (by omega) (by omega)).symm
    | exact (rfl : Dat.i ((0 : Nat) : Int) = Dat.int .i64 0)
    | exact inp_p (all_at h3 (by with_reducible assumption))
    | exact all_at h3 (by with_reducible assumption)
    | (rw [Int.toNat_natCast]; exact all_at h3 (by with_reducible assumption))
    | (exact inp_p (by rw [Int.toNat_natCast]; exact all_at h3 (by with_reducible assumption)))
    | (have q := lst_len m k; have hm2 : maxLen = 9223372036854775807 := rfl; show (lstTo m k).length + 1 ≤ maxLen; omega)
    | (have q := lst_len m k; show ((lstTo m k).length + 1) * 8 ≤ 140737488355328; omega)
    | (have q := some_len ts m k; have hm2 : maxLen = 9223372036854775807 := rfl; show (someTo ts m k).length + 1 ≤ maxLen; omega)
    | (have q := some_len ts m k; show ((someTo ts m k).length + 1) * 24 ≤ 140737488355328; omega)
    | (have q := some_len ts m k; omega)
    | (have q := got_cap (p := ⟨w, mem, inn, c⟩) (m := m) hf h10 (by with_reducible assumption); have hm2 : maxLen = 9223372036854775807 := rfl; show (gotTo ⟨w, mem, inn, c⟩ ts fuel m k).length + ((edgL ⟨w, mem, inn, c⟩ ts fuel).getD (k : Int).toNat K.intss.dflt).length ≤ maxLen; omega)
    | (have q := got_cap (p := ⟨w, mem, inn, c⟩) (m := m) hf h10 (by with_reducible assumption); show ((gotTo ⟨w, mem, inn, c⟩ ts fuel m k).length + ((edgL ⟨w, mem, inn, c⟩ ts fuel).getD (k : Int).toNat K.intss.dflt).length) * 8 ≤ 140737488355328; omega)
    | (have q := got_len (p := ⟨w, mem, inn, c⟩) (ts := ts) hf m k; show (gotTo ⟨w, mem, inn, c⟩ ts fuel m k).length ≤ 1000000000; omega)
    | (rw [edgL_len]; omega)
    | omega
    | (dsimp only; omega)
    | (simp only [List.length_append, List.length_take, List.length_replicate, edgL_len]; omega)
    | (show (_ : Int) * ((24 : Nat) : Int) ≤ _; omega)
    | (have hm2 : maxLen = 9223372036854775807 := rfl; omega)
    | rfl
    | exact rfl
    | skip
set_option maxRecDepth 100000 in
theorem s_Sui0 (w mem inn : Int) (c : List V.Ins) (ts : List (List Int)) (fuel : Int) (hx : suiOk ⟨w, mem, inn, c⟩ ts fuel = false) : CallsV Try.prog 52 [.agg [.dat (.i w), .dat (.i mem), .dat (.i inn), .dat (.seq .inss c)], .dat (.seq .intss ts), .dat (.i fuel)] (.nils) := by
  refine CallsV.of_awp tauOk mixOk Try.func52 rfl rfl rfl ?_
  conv => whnf
  repeat' (first
    | ((with_reducible refine fun (K1 : AX → AState → Prop) hK => ?_); (with_reducible refine awp_rg ?_ ?_); exact rfl; conv => whnf)
    | ((with_reducible refine Alt.l ?_); conv => whnf)
    | ((with_reducible refine fun (K1 : AX → AState → Prop) hK => ?_); conv => whnf)
    | ((with_reducible show K1 _ _); subst hK; conv => whnf)
    | (with_reducible exact rfl)
    | ((with_reducible refine sp_T ?_); conv => whnf)
    | ((with_reducible refine sp_F ?_); conv => whnf)
    | ((with_reducible refine sp_T' ?_); conv => whnf)
    | ((with_reducible refine sp_F' ?_); conv => whnf)
    | ((with_reducible refine sp_dF ?_ ?_); decide; conv => whnf)
    | ((with_reducible refine sp_dT ?_ ?_); decide; conv => whnf)
    | ((with_reducible refine sp_d (fun h => ?_) (fun h => ?_)) <;> first | contradiction | (subst h; conv => whnf) | (conv => whnf))
    | ((with_reducible refine sp_d' (fun h => ?_) (fun h => ?_)) <;> first | contradiction | (subst h; conv => whnf) | (conv => whnf))
    | ((with_reducible refine sp_eF ?_ ?_); decide; conv => whnf)
    | ((with_reducible refine sp_eT ?_); conv => whnf)
    | ((with_reducible refine sp_e (fun h => ?_) (fun h => ?_)) <;> first | contradiction | (subst h; conv => whnf) | (conv => whnf))
    | ((with_reducible refine sp_e' (fun h => ?_) (fun h => ?_)) <;> first | contradiction | (subst h; conv => whnf) | (conv => whnf))
    | ((with_reducible refine sp_n (fun h => ?_) (fun h => ?_)) <;> first | contradiction | (subst h; conv => whnf) | (conv => whnf))
    | ((with_reducible refine sp_n' (fun h => ?_) (fun h => ?_)) <;> first | contradiction | (subst h; conv => whnf) | (conv => whnf))
    | ((with_reducible refine sp_nb (fun h => ?_) (fun h => ?_)) <;> first | (exact Bool.noConfusion (Eq.trans (Eq.symm h) (show _ = true by with_reducible assumption))) | (exact Bool.noConfusion (Eq.trans (Eq.symm (show _ = false by with_reducible assumption)) h)) | (conv => whnf))
    | ((with_reducible refine sp_nb' (fun h => ?_) (fun h => ?_)) <;> first | (exact Bool.noConfusion (Eq.trans (Eq.symm h) (show _ = true by with_reducible assumption))) | (exact Bool.noConfusion (Eq.trans (Eq.symm (show _ = false by with_reducible assumption)) h)) | (conv => whnf))
    | ((with_reducible refine sp_b (fun h => ?_) (fun h => ?_)) <;> first | (exact Bool.noConfusion (Eq.trans (Eq.symm h) (show _ = true by with_reducible assumption))) | (exact Bool.noConfusion (Eq.trans (Eq.symm (show _ = false by with_reducible assumption)) h)) | (conv => whnf))
    | ((with_reducible refine sp_b' (fun h => ?_) (fun h => ?_)) <;> first | (exact Bool.noConfusion (Eq.trans (Eq.symm h) (show _ = true by with_reducible assumption))) | (exact Bool.noConfusion (Eq.trans (Eq.symm (show _ = false by with_reducible assumption)) h)) | (conv => whnf))
    | (refine ⟨(rfl : nodupB _ = true), rfl, ?_⟩; conv => whnf)
    | (with_reducible refine bnd2 ?_ ?_)
    | (with_reducible refine bnd2' ?_ ?_)
    | (with_reducible refine bndN ?_ ?_)
    | ((with_reducible refine and_of ?_ ?_); conv => whnf)
    | ((with_reducible refine pcI (g := 93) ?_); refine ⟨_, s_l09Tests .., rfl, ?_⟩; rotate_right; conv => whnf)
    | ((with_reducible show Exists _); refine Exists.intro _ (And.intro (s_l09Tests ..) (And.intro rfl ?_)); rotate_right; conv => whnf)
    | ((with_reducible refine pcI (g := 63) ?_); refine ⟨_, s_l01In .., rfl, ?_⟩; rotate_right; conv => whnf)
    | ((with_reducible show Exists _); refine Exists.intro _ (And.intro (s_l01In ..) (And.intro rfl ?_)); rotate_right; conv => whnf)
    | ((with_reducible refine fcI (g := 38) ?_); refine ⟨_, _, s_CalOk (h3 := by assumption) (hf := by assumption) (hl := ?_) .., rfl, fun res B hRB => ?_⟩; rotate_right; obtain ⟨rfl, rfl⟩ := hRB; conv => whnf)
    | ((with_reducible refine pcI (g := 38) ?_); refine ⟨_, s_Cal0 (hx := by assumption) .., rfl, ?_⟩; rotate_right; conv => whnf)
    | ((with_reducible show Exists _); refine Exists.intro _ (And.intro (s_Cal0 (hx := by assumption) ..) (And.intro rfl ?_)); rotate_right; conv => whnf)
    | ((with_reducible refine fcI (g := 38) ?_); refine ⟨_, _, s_CalR (hx := by assumption) (hl := ?_) .., rfl, fun res B hRB => ?_⟩; rotate_right; obtain ⟨rfl, rfl⟩ := hRB; conv => whnf)
    | ((with_reducible refine pcI (g := 38) ?_); refine ⟨_, s_CalN (hx := by assumption) .., rfl, ?_⟩; rotate_right; conv => whnf)
    | ((with_reducible show Exists _); refine Exists.intro _ (And.intro (s_CalN (hx := by assumption) ..) (And.intro rfl ?_)); rotate_right; conv => whnf)
    | ((with_reducible refine fcI (g := 38) ?_); refine ⟨_, _, s_CalOk (h3 := ?_) (hf := ?_) (hl := ?_) .., rfl, fun res B hRB => ?_⟩; rotate_right; obtain ⟨rfl, rfl⟩ := hRB; conv => whnf)
    | ((with_reducible refine pcI (g := 102) ?_); refine ⟨_, s_l09Less (hab := ?_) .., rfl, ?_⟩; rotate_right; conv => whnf)
    | ((with_reducible show Exists _); refine Exists.intro _ (And.intro (s_l09Less (hab := ?_) ..) (And.intro rfl ?_)); rotate_right; conv => whnf)
    | ((with_reducible refine pcI (g := 69) ?_); refine ⟨_, s_l05Ints .., rfl, ?_⟩; rotate_right; conv => whnf)
    | ((with_reducible show Exists _); refine Exists.intro _ (And.intro (s_l05Ints ..) (And.intro rfl ?_)); rotate_right; conv => whnf)
    | ((with_reducible show awpOps _ _ _ _ _ _); conv => whnf)
    | (intro h; conv => whnf))
  all_goals (repeat (clear hK; clear K1))
  all_goals first | (with_reducible exact trivial) | (exfalso; simp_all [suiOk]; done) | (exfalso; simp_all [suiOk]; omega) | skip
end Vg
