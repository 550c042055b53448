/- Programs with a loop and facts that are drawn out of bytes: contracts. Condition: the bytes are not too many. -/
import Derived.Test.YtnjkencoohaheaaGive
import Derived.Test.YtnjkencoohaheaaFact
namespace Vg
open Go Go.Proofs
set_option maxHeartbeats 2000000 in
set_option maxRecDepth 100000 in
theorem h_l01Near (b : List Int) (i g lo hi' : Int) (hi : 0 ≤ i) (hl : b.length ≤ maxLen) : CallsG Try.prog 120 [.ptr 0 0, .dat (.i lo), .dat (.i hi')] [.box [.dat (.seq .bytes b), .dat (.i i), .dat (.i g)]] 1 (fun res B => ∃ x i' g' : Int, res = .dat (.i x) ∧ B = [.box [.dat (.seq .bytes b), .dat (.i i'), .dat (.i g')]] ∧ 0 ≤ i') := by
  refine CallsG.of_awp tauOk mixOk Try.func120 rfl rfl rfl ?_
  conv => whnf
  repeat' (first
    | ((with_reducible refine Alt.l ?_); conv => whnf)
    | ((with_reducible refine fun (K1 : AX → AState → Prop) hK => ?_); conv => whnf)
    | ((with_reducible show K1 _ _); subst hK; conv => whnf)
    | (with_reducible exact rfl)
    | ((with_reducible refine sp_T ?_); conv => whnf)
    | ((with_reducible refine sp_F ?_); conv => whnf)
    | ((with_reducible refine sp_T' ?_); conv => whnf)
    | ((with_reducible refine sp_F' ?_); conv => whnf)
    | ((with_reducible refine sp_dF ?_ ?_); decide; conv => whnf)
    | ((with_reducible refine sp_dT ?_ ?_); decide; conv => whnf)
    | ((with_reducible refine sp_d (fun h => ?_) (fun h => ?_)) <;> first | contradiction | (subst h; conv => whnf) | (conv => whnf))
    | ((with_reducible refine sp_d' (fun h => ?_) (fun h => ?_)) <;> first | contradiction | (subst h; conv => whnf) | (conv => whnf))
    | ((with_reducible refine sp_eF ?_ ?_); decide; conv => whnf)
    | ((with_reducible refine sp_eT ?_); conv => whnf)
    | ((with_reducible refine sp_e (fun h => ?_) (fun h => ?_)) <;> first | contradiction | (subst h; conv => whnf) | (conv => whnf))
    | ((with_reducible refine sp_e' (fun h => ?_) (fun h => ?_)) <;> first | contradiction | (subst h; conv => whnf) | (conv => whnf))
    | ((with_reducible refine sp_n (fun h => ?_) (fun h => ?_)) <;> first | contradiction | (subst h; conv => whnf) | (conv => whnf))
    | ((with_reducible refine sp_n' (fun h => ?_) (fun h => ?_)) <;> first | contradiction | (subst h; conv => whnf) | (conv => whnf))
    | ((with_reducible refine sp_nb (fun h => ?_) (fun h => ?_)) <;> first | (exact Bool.noConfusion (Eq.trans (Eq.symm h) (show _ = true by with_reducible assumption))) | (exact Bool.noConfusion (Eq.trans (Eq.symm (show _ = false by with_reducible assumption)) h)) | (conv => whnf))
    | ((with_reducible refine sp_nb' (fun h => ?_) (fun h => ?_)) <;> first | (exact Bool.noConfusion (Eq.trans (Eq.symm h) (show _ = true by with_reducible assumption))) | (exact Bool.noConfusion (Eq.trans (Eq.symm (show _ = false by with_reducible assumption)) h)) | (conv => whnf))
    | ((with_reducible refine sp_b (fun h => ?_) (fun h => ?_)) <;> first | (exact Bool.noConfusion (Eq.trans (Eq.symm h) (show _ = true by with_reducible assumption))) | (exact Bool.noConfusion (Eq.trans (Eq.symm (show _ = false by with_reducible assumption)) h)) | (conv => whnf))
    | ((with_reducible refine sp_b' (fun h => ?_) (fun h => ?_)) <;> first | (exact Bool.noConfusion (Eq.trans (Eq.symm h) (show _ = true by with_reducible assumption))) | (exact Bool.noConfusion (Eq.trans (Eq.symm (show _ = false by with_reducible assumption)) h)) | (conv => whnf))
    | (refine ⟨(rfl : nodupB _ = true), rfl, ?_⟩; conv => whnf)
    | (with_reducible refine bnd2 ?_ ?_)
    | (with_reducible refine bnd2' ?_ ?_)
    | (with_reducible refine bndN ?_ ?_)
    | ((with_reducible refine and_of ?_ ?_); conv => whnf)
    | ((with_reducible refine gcI (g := 56) ?_); refine ⟨_, _, h_l01Below (hi := ?_) (hl := by with_reducible assumption) .., fun res B hRB => ?_⟩; rotate_right; obtain ⟨x, i', g', rfl, rfl, hx, hi'⟩ := hRB; conv => whnf)
    | ((with_reducible show awpOps _ _ _ _ _ _); conv => whnf)
    | (intro h; conv => whnf))
  all_goals (repeat (clear hK; clear K1))
  all_goals first | (with_reducible assumption) | exact ⟨_, _, _, rfl, rfl, by with_reducible assumption⟩ | omega | skip
set_option maxHeartbeats 4000000 in
set_option maxRecDepth 100000 in
theorem h_l01Plain (b : List Int) (i g w : Int) (hi : 0 ≤ i) (hl : b.length ≤ maxLen) : CallsG Try.prog 115 [.ptr 0 0, .dat (.i w)] [.box [.dat (.seq .bytes b), .dat (.i i), .dat (.i g)]] 1 (fun res B => ∃ op a c d i' g' : Int, res = .agg [.dat (.i op), .dat (.i a), .dat (.i c), .dat (.i d)] ∧ B = [.box [.dat (.seq .bytes b), .dat (.i i'), .dat (.i g')]] ∧ 0 ≤ i') := by
  refine CallsG.of_awp tauOk mixOk Try.func115 rfl rfl rfl ?_
  conv => whnf
  repeat' (first
    | ((with_reducible refine Alt.l ?_); conv => whnf)
    | ((with_reducible refine fun (K1 : AX → AState → Prop) hK => ?_); conv => whnf)
    | ((with_reducible show K1 _ _); subst hK; conv => whnf)
    | (with_reducible exact rfl)
    | ((with_reducible refine sp_T ?_); conv => whnf)
    | ((with_reducible refine sp_F ?_); conv => whnf)
    | ((with_reducible refine sp_T' ?_); conv => whnf)
    | ((with_reducible refine sp_F' ?_); conv => whnf)
    | ((with_reducible refine sp_dF ?_ ?_); decide; conv => whnf)
    | ((with_reducible refine sp_dT ?_ ?_); decide; conv => whnf)
    | ((with_reducible refine sp_d (fun h => ?_) (fun h => ?_)) <;> first | contradiction | (subst h; conv => whnf) | (conv => whnf))
    | ((with_reducible refine sp_d' (fun h => ?_) (fun h => ?_)) <;> first | contradiction | (subst h; conv => whnf) | (conv => whnf))
    | ((with_reducible refine sp_eF ?_ ?_); decide; conv => whnf)
    | ((with_reducible refine sp_eT ?_); conv => whnf)
    | ((with_reducible refine sp_e (fun h => ?_) (fun h => ?_)) <;> first | contradiction | (subst h; conv => whnf) | (conv => whnf))
    | ((with_reducible refine sp_e' (fun h => ?_) (fun h => ?_)) <;> first | contradiction | (subst h; conv => whnf) | (conv => whnf))
    | ((with_reducible refine sp_n (fun h => ?_) (fun h => ?_)) <;> first | contradiction | (subst h; conv => whnf) | (conv => whnf))
    | ((with_reducible refine sp_n' (fun h => ?_) (fun h => ?_)) <;> first | contradiction | (subst h; conv => whnf) | (conv => whnf))
    | ((with_reducible refine sp_nb (fun h => ?_) (fun h => ?_)) <;> first | (exact Bool.noConfusion (Eq.trans (Eq.symm h) (show _ = true by with_reducible assumption))) | (exact Bool.noConfusion (Eq.trans (Eq.symm (show _ = false by with_reducible assumption)) h)) | (conv => whnf))
    | ((with_reducible refine sp_nb' (fun h => ?_) (fun h => ?_)) <;> first | (exact Bool.noConfusion (Eq.trans (Eq.symm h) (show _ = true by with_reducible assumption))) | (exact Bool.noConfusion (Eq.trans (Eq.symm (show _ = false by with_reducible assumption)) h)) | (conv => whnf))
    | ((with_reducible refine sp_b (fun h => ?_) (fun h => ?_)) <;> first | (exact Bool.noConfusion (Eq.trans (Eq.symm h) (show _ = true by with_reducible assumption))) | (exact Bool.noConfusion (Eq.trans (Eq.symm (show _ = false by with_reducible assumption)) h)) | (conv => whnf))
    | ((with_reducible refine sp_b' (fun h => ?_) (fun h => ?_)) <;> first | (exact Bool.noConfusion (Eq.trans (Eq.symm h) (show _ = true by with_reducible assumption))) | (exact Bool.noConfusion (Eq.trans (Eq.symm (show _ = false by with_reducible assumption)) h)) | (conv => whnf))
    | (refine ⟨(rfl : nodupB _ = true), rfl, ?_⟩; conv => whnf)
    | (with_reducible refine bnd2 ?_ ?_)
    | (with_reducible refine bnd2' ?_ ?_)
    | (with_reducible refine bndN ?_ ?_)
    | ((with_reducible refine and_of ?_ ?_); conv => whnf)
    | ((with_reducible refine gcI (g := 56) ?_); refine ⟨_, _, h_l01Below (hi := ?_) (hl := by with_reducible assumption) .., fun res B hRB => ?_⟩; rotate_right; obtain ⟨x, i', g', rfl, rfl, hx, hi'⟩ := hRB; conv => whnf)
    | ((with_reducible refine pcI (g := 60) ?_); refine ⟨_, s_WordOf .., rfl, ?_⟩; rotate_right; conv => whnf)
    | ((with_reducible show Exists _); refine Exists.intro _ (And.intro (s_WordOf ..) (And.intro rfl ?_)); rotate_right; conv => whnf)
    | ((with_reducible refine gcI (g := 116) ?_); refine ⟨_, _, h_l01Pick (hi := ?_) (hl := by with_reducible assumption) (h1 := ?_) .., fun res B hRB => ?_⟩; rotate_right; obtain ⟨x, i', g', rfl, rfl, hm, hi'⟩ := hRB; conv => whnf)
    | ((with_reducible show awpOps _ _ _ _ _ _); conv => whnf)
    | (intro h; conv => whnf))
  all_goals (repeat (clear hK; clear K1))
  all_goals first | (with_reducible assumption) | exact ⟨_, _, _, _, _, _, rfl, rfl, by with_reducible assumption⟩ | exact Nat.succ_pos _ | omega | skip
structure LoopA (inn i k : Int) (code : List V.Ins) : Prop where
  hn : 0 ≤ inn ∧ inn ≤ 1
  hi : 0 ≤ i
  hk : 0 ≤ k ∧ (code.length : Int) + k ≤ 4
structure LoopB (inn i h k : Int) (code : List V.Ins) : Prop where
  hn : 0 ≤ inn ∧ inn ≤ 1
  hi : 0 ≤ i
  hh : 0 ≤ h ∧ h < code.length
  hk : 0 ≤ k ∧ (code.length : Int) + k ≤ 7
theorem loopA_0 {x i k : Int} {code : List V.Ins} (hx : 0 ≤ x ∧ x ≤ 255 ∧ ((0 : Int) < 2 → x < 2)) (hi : 0 ≤ i) (hk : 0 ≤ k ∧ k ≤ 255 ∧ ((0 : Int) < 3 → k < 3)) (hc : code.length = 2) : LoopA x i k code := ⟨by omega, hi, by omega⟩
theorem loopA_1 {inn i i' k : Int} {code code' : List V.Ins} (h : LoopA inn i k code) (hk : k > 0) (hi : 0 ≤ i') (hc : code'.length = code.length + 1) : LoopA inn i' (IntKind.i64.wrap (k - 1)) code' := by
  have h1 := h.hk
  exact ⟨h.hn, hi, by rw [wrap_id (by omega) (by omega)]; omega⟩
theorem loopB_0 {inn i i' k k' : Int} {code code' : List V.Ins} (h : LoopA inn i k code) (hi : 0 ≤ i') (hk : 0 ≤ k' ∧ k' ≤ 255 ∧ ((0 : Int) < 3 → k' < 3)) (hc : code'.length = code.length + 1) : LoopB inn i' code.length k' code' := by
  have h1 := h.hk
  exact ⟨h.hn, hi, by omega, by omega⟩
theorem loopB_1 {inn i i' hd k : Int} {code code' : List V.Ins} (h : LoopB inn i hd k code) (hk : k > 0) (hi : 0 ≤ i') (hc : code'.length = code.length + 1) : LoopB inn i' hd (IntKind.i64.wrap (k - 1)) code' := by
  have h1 := h.hk; have h2 := h.hh
  exact ⟨h.hn, hi, by omega, by rw [wrap_id (by omega) (by omega)]; omega⟩
theorem loopA_mu {inn i k : Int} {code : List V.Ins} (h : LoopA inn i k code) (hk : k > 0) : (IntKind.i64.wrap (k - 1)).toNat < k.toNat := by
  have h1 := h.hk
  rw [wrap_id (by omega) (by omega)]; omega
theorem loopB_mu {inn i hd k : Int} {code : List V.Ins} (h : LoopB inn i hd k code) (hk : k > 0) : (IntKind.i64.wrap (k - 1)).toNat < k.toNat := by
  have h1 := h.hk
  rw [wrap_id (by omega) (by omega)]; omega
theorem loopA_len {inn i k : Int} {code : List V.Ins} (h : LoopA inn i k code) : code.length ≤ 4 := by have := h.hk; omega
theorem loopB_len {inn i hd k : Int} {code : List V.Ins} (h : LoopB inn i hd k code) : code.length ≤ 7 := by have := h.hk; omega
theorem set_l2 {l' code : List V.Ins} {a b y : V.Ins} {k : Nat} (h : l' = (code ++ [a, b]).set k y) : l'.length = code.length + 2 := by rw [h, List.length_set, List.length_append]; rfl
theorem cap_m {A B : List V.Ins} (hA : A.length ≤ 20) (hB : B.length ≤ 2) : A.length + B.length ≤ maxLen := by have : maxLen = 9223372036854775807 := rfl; omega
theorem cap_b {A B : List V.Ins} (hA : A.length ≤ 20) (hB : B.length ≤ 2) : (A.length + B.length) * ty35.bytes ≤ 140737488355328 := by show (A.length + B.length) * 32 ≤ 140737488355328; omega
theorem loopA_20 {inn i k : Int} {code : List V.Ins} (h : LoopA inn i k code) : code.length ≤ 20 := by have := h.hk; omega
theorem loopB_20 {inn i hd k : Int} {code : List V.Ins} (h : LoopB inn i hd k code) : code.length ≤ 20 := by have := h.hk; omega
theorem set_20 {inn i hd k : Int} {l' code : List V.Ins} {a b y : V.Ins} {n : Nat} (h : l' = (code ++ [a, b]).set n y) (hI : LoopB inn i hd k code) : l'.length ≤ 20 := by have := loopB_len hI; have := set_l2 h; omega
theorem set_21 {inn i hd k : Int} {l' code : List V.Ins} {a b y z : V.Ins} {n : Nat} (h : l' = (code ++ [a, b]).set n y) (hI : LoopB inn i hd k code) : (l' ++ [z]).length ≤ 20 := by have := loopB_len hI; have := set_l2 h; simp; omega
set_option maxHeartbeats 8000000 in
set_option maxRecDepth 100000 in
theorem h_l08Loop (b : List Int) (i g : Int) (hi : 0 ≤ i) (hl : b.length ≤ maxLen) : CallsG Try.prog 73 [.ptr 0 0] [.box [.dat (.seq .bytes b), .dat (.i i), .dat (.i g)]] 1 (fun res B => ∃ (w mem inn hd i' g' : Int) (code : List V.Ins), res = .tup [.agg [.dat (.i w), .dat (.i mem), .dat (.i inn), .row 1], .dat (.i hd)] ∧ B = [.box [.dat (.seq .bytes b), .dat (.i i'), .dat (.i g')], .row 35 .inss code false] ∧ (0 ≤ inn ∧ inn ≤ 1) ∧ 0 ≤ i') := by
  refine CallsG.of_awp tauOk mixOk Try.func73 rfl rfl rfl ?_
  conv => whnf
  repeat' (first
    | ((with_reducible refine Alt.r ?_); conv => whnf)
    | ((with_reducible refine fun (K1 : AX → AState → Prop) hK => ?_); conv => whnf)
    | ((with_reducible show K1 _ _); subst hK; conv => whnf)
    | (with_reducible exact rfl)
    | ((with_reducible refine sp_T ?_); conv => whnf)
    | ((with_reducible refine sp_F ?_); conv => whnf)
    | ((with_reducible refine sp_T' ?_); conv => whnf)
    | ((with_reducible refine sp_F' ?_); conv => whnf)
    | ((with_reducible refine sp_dF ?_ ?_); decide; conv => whnf)
    | ((with_reducible refine sp_dT ?_ ?_); decide; conv => whnf)
    | ((with_reducible refine sp_d (fun h => ?_) (fun h => ?_)) <;> first | contradiction | (subst h; conv => whnf) | (conv => whnf))
    | ((with_reducible refine sp_d' (fun h => ?_) (fun h => ?_)) <;> first | contradiction | (subst h; conv => whnf) | (conv => whnf))
    | ((with_reducible refine sp_eF ?_ ?_); decide; conv => whnf)
    | ((with_reducible refine sp_eT ?_); conv => whnf)
    | ((with_reducible refine sp_e (fun h => ?_) (fun h => ?_)) <;> first | contradiction | (subst h; conv => whnf) | (conv => whnf))
    | ((with_reducible refine sp_e' (fun h => ?_) (fun h => ?_)) <;> first | contradiction | (subst h; conv => whnf) | (conv => whnf))
    | ((with_reducible refine sp_n (fun h => ?_) (fun h => ?_)) <;> first | contradiction | (subst h; conv => whnf) | (conv => whnf))
    | ((with_reducible refine sp_n' (fun h => ?_) (fun h => ?_)) <;> first | contradiction | (subst h; conv => whnf) | (conv => whnf))
    | ((with_reducible refine sp_nb (fun h => ?_) (fun h => ?_)) <;> first | (exact Bool.noConfusion (Eq.trans (Eq.symm h) (show _ = true by with_reducible assumption))) | (exact Bool.noConfusion (Eq.trans (Eq.symm (show _ = false by with_reducible assumption)) h)) | (conv => whnf))
    | ((with_reducible refine sp_nb' (fun h => ?_) (fun h => ?_)) <;> first | (exact Bool.noConfusion (Eq.trans (Eq.symm h) (show _ = true by with_reducible assumption))) | (exact Bool.noConfusion (Eq.trans (Eq.symm (show _ = false by with_reducible assumption)) h)) | (conv => whnf))
    | ((with_reducible refine sp_b (fun h => ?_) (fun h => ?_)) <;> first | (exact Bool.noConfusion (Eq.trans (Eq.symm h) (show _ = true by with_reducible assumption))) | (exact Bool.noConfusion (Eq.trans (Eq.symm (show _ = false by with_reducible assumption)) h)) | (conv => whnf))
    | ((with_reducible refine sp_b' (fun h => ?_) (fun h => ?_)) <;> first | (exact Bool.noConfusion (Eq.trans (Eq.symm h) (show _ = true by with_reducible assumption))) | (exact Bool.noConfusion (Eq.trans (Eq.symm (show _ = false by with_reducible assumption)) h)) | (conv => whnf))
    | (refine ⟨(rfl : nodupB _ = true), rfl, ?_⟩; conv => whnf)
    | (with_reducible refine bnd2 ?_ ?_)
    | (with_reducible refine bnd2' ?_ ?_)
    | (with_reducible refine bndN ?_ ?_)
    | ((with_reducible refine and_of ?_ ?_); conv => whnf)
    | (refine Exists.intro ({x : (Int × Int × Int) × (Int × Int × Int) × Int × List V.Ins // LoopA x.1.2.2 x.2.1.2.1 x.2.2.1 x.2.2.2}) (Exists.intro (fun ⟨⟨⟨w, mem, inn⟩, ⟨one, i, g⟩, k, code⟩, hI⟩ => mkS Try.f73.ntmps [(0, .ptr 900000 0), (2, .ptr 2 0), (4, .ptr 4 0), (5, .dat (.i one)), (6, .row 106), (7, .dat (.i k))] [(900000, .box [.dat (.seq .bytes b), .dat (.i i), .dat (.i g)]), (2, .box [.cell, .cell, .cell, .cell]), (4, .box [.dat (.i w), .dat (.i mem), .dat (.i inn), .cell]), (106, .row 35 .inss code false)]) (Exists.intro (fun ⟨⟨⟨w, mem, inn⟩, ⟨one, i, g⟩, k, code⟩, hI⟩ => k.toNat) (Exists.intro ⟨⟨⟨?_, ?_, ?_⟩, ⟨?_, ?_, ?_⟩, ?_, ?_⟩, ?_⟩ (And.intro (SubP.sub (σ := [(900000, some 900000), (2, some 2), (4, some 4), (106, some 41)]) ⟨⟨rfl, rfl, rfl⟩, ⟨⟨rfl, rfl⟩, ⟨rfl, rfl⟩, ⟨rfl, rfl⟩, (wk_dat ?_), rfl, (wk_dat ?_), trivial⟩, ⟨⟨(wkC_dat ?_), (wkC_dat ?_), (wkC_dat ?_), trivial⟩, ⟨rfl, rfl, rfl, rfl, trivial⟩, ⟨(wkC_dat ?_), (wkC_dat ?_), (wkC_dat ?_), rfl, trivial⟩, ⟨⟨rfl, rfl⟩, ?_⟩, trivial⟩⟩) (fun ⟨⟨⟨w, mem, inn⟩, ⟨one, i, g⟩, k, code⟩, hI⟩ => ?_))))); rotate_right; conv => whnf)
    | (refine Exists.intro (⟨⟨⟨w, mem, inn⟩, ⟨one, ?_, ?_⟩, ?_, ?_⟩, ?_⟩ : {x : (Int × Int × Int) × (Int × Int × Int) × Int × List V.Ins // LoopA x.1.2.2 x.2.1.2.1 x.2.2.1 x.2.2.2}) (And.intro ?_ (SubP.sub (σ := [(900000, some 900000), (2, some 2), (4, some 4), (106, some 59)]) ⟨⟨rfl, rfl, rfl⟩, ⟨⟨rfl, rfl⟩, ⟨rfl, rfl⟩, ⟨rfl, rfl⟩, (wk_dat ?_), rfl, (wk_dat ?_), trivial⟩, ⟨⟨(wkC_dat ?_), (wkC_dat ?_), (wkC_dat ?_), trivial⟩, ⟨rfl, rfl, rfl, rfl, trivial⟩, ⟨(wkC_dat ?_), (wkC_dat ?_), (wkC_dat ?_), rfl, trivial⟩, ⟨⟨rfl, rfl⟩, ?_⟩, trivial⟩⟩)))
    | (refine Exists.intro ({x : (Int × Int × Int) × (Int × Int × Int) × (Int × Int) × List V.Ins // LoopB x.1.2.2 x.2.1.2.1 x.2.2.1.1 x.2.2.1.2 x.2.2.2}) (Exists.intro (fun ⟨⟨⟨w, mem, inn⟩, ⟨one, i, g⟩, ⟨hd, k⟩, code⟩, hI⟩ => mkS Try.f73.ntmps [(0, .ptr 900000 0), (2, .ptr 2 0), (4, .ptr 4 0), (5, .dat (.i one)), (6, .row 106), (8, .dat (.i hd)), (9, .dat (.i k))] [(900000, .box [.dat (.seq .bytes b), .dat (.i i), .dat (.i g)]), (2, .box [.cell, .cell, .cell, .cell]), (4, .box [.dat (.i w), .dat (.i mem), .dat (.i inn), .cell]), (106, .row 35 .inss code false)]) (Exists.intro (fun ⟨⟨⟨w, mem, inn⟩, ⟨one, i, g⟩, ⟨hd, k⟩, code⟩, hI⟩ => k.toNat) (Exists.intro ⟨⟨⟨?_, ?_, ?_⟩, ⟨?_, ?_, ?_⟩, ⟨?_, ?_⟩, ?_⟩, ?_⟩ (And.intro (SubP.sub (σ := [(900000, some 900000), (2, some 2), (4, some 4), (106, some 66)]) ⟨⟨rfl, rfl, rfl⟩, ⟨⟨rfl, rfl⟩, ⟨rfl, rfl⟩, ⟨rfl, rfl⟩, (wk_dat ?_), rfl, (wk_dat ?_), (wk_dat ?_), trivial⟩, ⟨⟨(wkC_dat ?_), (wkC_dat ?_), (wkC_dat ?_), trivial⟩, ⟨rfl, rfl, rfl, rfl, trivial⟩, ⟨(wkC_dat ?_), (wkC_dat ?_), (wkC_dat ?_), rfl, trivial⟩, ⟨⟨rfl, rfl⟩, ?_⟩, trivial⟩⟩) (fun ⟨⟨⟨w, mem, inn⟩, ⟨one, i, g⟩, ⟨hd, k⟩, code⟩, hI⟩ => ?_))))); rotate_right; conv => whnf)
    | (refine Exists.intro (⟨⟨⟨w, mem, inn⟩, ⟨one, ?_, ?_⟩, ⟨hd, ?_⟩, ?_⟩, ?_⟩ : {x : (Int × Int × Int) × (Int × Int × Int) × (Int × Int) × List V.Ins // LoopB x.1.2.2 x.2.1.2.1 x.2.2.1.1 x.2.2.1.2 x.2.2.2}) (And.intro ?_ (SubP.sub (σ := [(900000, some 900000), (2, some 2), (4, some 4), (106, some 79)]) ⟨⟨rfl, rfl, rfl⟩, ⟨⟨rfl, rfl⟩, ⟨rfl, rfl⟩, ⟨rfl, rfl⟩, (wk_dat ?_), rfl, (wk_dat ?_), (wk_dat ?_), trivial⟩, ⟨⟨(wkC_dat ?_), (wkC_dat ?_), (wkC_dat ?_), trivial⟩, ⟨rfl, rfl, rfl, rfl, trivial⟩, ⟨(wkC_dat ?_), (wkC_dat ?_), (wkC_dat ?_), rfl, trivial⟩, ⟨⟨rfl, rfl⟩, ?_⟩, trivial⟩⟩)))
    | ((with_reducible refine gcI (g := 56) ?_); refine ⟨_, _, h_l01Below (hi := ?_) (hl := by with_reducible assumption) .., fun res B hRB => ?_⟩; rotate_right; obtain ⟨x, i', g', rfl, rfl, hx, hi'⟩ := hRB; conv => whnf)
    | ((with_reducible refine pcI (g := 60) ?_); refine ⟨_, s_WordOf .., rfl, ?_⟩; rotate_right; conv => whnf)
    | ((with_reducible show Exists _); refine Exists.intro _ (And.intro (s_WordOf ..) (And.intro rfl ?_)); rotate_right; conv => whnf)
    | ((with_reducible refine gcI (g := 115) ?_); refine ⟨_, _, h_l01Plain (hi := ?_) (hl := by with_reducible assumption) .., fun res B hRB => ?_⟩; rotate_right; obtain ⟨op, a, c, d, i', g', rfl, rfl, hi'⟩ := hRB; conv => whnf)
    | ((with_reducible refine gcI (g := 116) ?_); refine ⟨_, _, h_l01Pick (hi := ?_) (hl := by with_reducible assumption) (h1 := ?_) .., fun res B hRB => ?_⟩; rotate_right; obtain ⟨x, i', g', rfl, rfl, hm, hi'⟩ := hRB; conv => whnf)
    | ((with_reducible refine gcI (g := 55) ?_); refine ⟨_, _, h_l01Once (hi := ?_) (hl := by with_reducible assumption) .., fun res B hRB => ?_⟩; rotate_right; obtain ⟨x, i', g', rfl, rfl, hi'⟩ := hRB; conv => whnf)
    | ((with_reducible show awpOps _ _ _ _ _ _); conv => whnf)
    | (intro h; conv => whnf))
  all_goals (repeat (clear hK; clear K1))
  all_goals first
    | (with_reducible assumption)
    | (with_reducible rfl)
    | exact hI.hi
    | exact loopA_0 (by with_reducible assumption) (by with_reducible assumption) (by with_reducible assumption) rfl
    | exact loopA_1 hI (by with_reducible assumption) (by with_reducible assumption) List.length_append
    | exact loopB_0 hI (by with_reducible assumption) (by with_reducible assumption) List.length_append
    | exact loopB_1 hI (by with_reducible assumption) (by with_reducible assumption) List.length_append
    | exact loopA_mu hI (by with_reducible assumption)
    | exact loopB_mu hI (by with_reducible assumption)
    | exact ⟨_, _, _, _, _, _, _, rfl, rfl, hI.hn, by with_reducible assumption⟩
    | exact Nat.succ_pos _
    | exact hI.hh.1
    | ((with_reducible refine cap_m ?_ ?_); (first | exact loopA_20 hI | exact loopB_20 hI | exact Nat.zero_le _ | exact set_20 (by assumption) hI | exact set_21 (by assumption) hI | exact (by decide : 1 ≤ 20)); (first | exact Nat.le.refl | exact Nat.le.step Nat.le.refl))
    | ((with_reducible refine cap_b ?_ ?_); (first | exact loopA_20 hI | exact loopB_20 hI | exact Nat.zero_le _ | exact set_20 (by assumption) hI | exact set_21 (by assumption) hI | exact (by decide : 1 ≤ 20)); (first | exact Nat.le.refl | exact Nat.le.step Nat.le.refl))
    | ((with_reducible show hd.toNat < _); show hd.toNat < List.length (code ++ [_, _]); have q : 0 ≤ hd ∧ hd < code.length := hI.hh; rw [List.length_append]; omega)
    | ((with_reducible show hd < _); show hd < ((List.length (code ++ [_, _]) : Nat) : Int); have q : 0 ≤ hd ∧ hd < code.length := hI.hh; rw [List.length_append]; omega)
    | skip
set_option maxHeartbeats 2000000 in
set_option maxRecDepth 100000 in
theorem c_GiveLp (b : List Int) (n : Int) (hn : 0 ≤ n) (hl : b.length ≤ maxLen) : CallsF Try.prog 19 [.dat (.seq .bytes b), .dat (.i n)] true (fun res B => ∃ (w mem inn hd : Int) (code : List V.Ins), res = .tup [.agg [.dat (.i w), .dat (.i mem), .dat (.i inn), .row 0], .dat (.i hd)] ∧ B = [.row 35 .inss code false] ∧ (0 ≤ inn ∧ inn ≤ 1)) := by
  refine CallsF.of_awp tauOk mixOk Try.func19 rfl rfl rfl ?_
  conv => whnf
  repeat' (first
    | ((with_reducible refine Alt.r ?_); conv => whnf)
    | ((with_reducible refine fun (K1 : AX → AState → Prop) hK => ?_); conv => whnf)
    | ((with_reducible show K1 _ _); subst hK; conv => whnf)
    | (with_reducible exact rfl)
    | ((with_reducible refine sp_T ?_); conv => whnf)
    | ((with_reducible refine sp_F ?_); conv => whnf)
    | ((with_reducible refine sp_T' ?_); conv => whnf)
    | ((with_reducible refine sp_F' ?_); conv => whnf)
    | ((with_reducible refine sp_dF ?_ ?_); decide; conv => whnf)
    | ((with_reducible refine sp_dT ?_ ?_); decide; conv => whnf)
    | ((with_reducible refine sp_d (fun h => ?_) (fun h => ?_)) <;> first | contradiction | (subst h; conv => whnf) | (conv => whnf))
    | ((with_reducible refine sp_d' (fun h => ?_) (fun h => ?_)) <;> first | contradiction | (subst h; conv => whnf) | (conv => whnf))
    | ((with_reducible refine sp_eF ?_ ?_); decide; conv => whnf)
    | ((with_reducible refine sp_eT ?_); conv => whnf)
    | ((with_reducible refine sp_e (fun h => ?_) (fun h => ?_)) <;> first | contradiction | (subst h; conv => whnf) | (conv => whnf))
    | ((with_reducible refine sp_e' (fun h => ?_) (fun h => ?_)) <;> first | contradiction | (subst h; conv => whnf) | (conv => whnf))
    | ((with_reducible refine sp_n (fun h => ?_) (fun h => ?_)) <;> first | contradiction | (subst h; conv => whnf) | (conv => whnf))
    | ((with_reducible refine sp_n' (fun h => ?_) (fun h => ?_)) <;> first | contradiction | (subst h; conv => whnf) | (conv => whnf))
    | ((with_reducible refine sp_nb (fun h => ?_) (fun h => ?_)) <;> first | (exact Bool.noConfusion (Eq.trans (Eq.symm h) (show _ = true by with_reducible assumption))) | (exact Bool.noConfusion (Eq.trans (Eq.symm (show _ = false by with_reducible assumption)) h)) | (conv => whnf))
    | ((with_reducible refine sp_nb' (fun h => ?_) (fun h => ?_)) <;> first | (exact Bool.noConfusion (Eq.trans (Eq.symm h) (show _ = true by with_reducible assumption))) | (exact Bool.noConfusion (Eq.trans (Eq.symm (show _ = false by with_reducible assumption)) h)) | (conv => whnf))
    | ((with_reducible refine sp_b (fun h => ?_) (fun h => ?_)) <;> first | (exact Bool.noConfusion (Eq.trans (Eq.symm h) (show _ = true by with_reducible assumption))) | (exact Bool.noConfusion (Eq.trans (Eq.symm (show _ = false by with_reducible assumption)) h)) | (conv => whnf))
    | ((with_reducible refine sp_b' (fun h => ?_) (fun h => ?_)) <;> first | (exact Bool.noConfusion (Eq.trans (Eq.symm h) (show _ = true by with_reducible assumption))) | (exact Bool.noConfusion (Eq.trans (Eq.symm (show _ = false by with_reducible assumption)) h)) | (conv => whnf))
    | (refine ⟨(rfl : nodupB _ = true), rfl, ?_⟩; conv => whnf)
    | (with_reducible refine bnd2 ?_ ?_)
    | (with_reducible refine bnd2' ?_ ?_)
    | (with_reducible refine bndN ?_ ?_)
    | ((with_reducible refine and_of ?_ ?_); conv => whnf)
    | ((with_reducible refine gcI (g := 73) ?_); refine ⟨_, _, h_l08Loop (hi := ?_) (hl := by with_reducible assumption) .., fun res B hRB => ?_⟩; rotate_right; obtain ⟨w, mem, inn, hd, i', g', code, rfl, rfl, hn, hi'⟩ := hRB; conv => whnf)
    | ((with_reducible refine fcI (g := 53) ?_); refine ⟨_, _, c_l11At (hl := ?_) .., rfl, fun res B hRB => ?_⟩; rotate_right; obtain ⟨rfl, rfl⟩ := hRB; conv => whnf)
    | ((with_reducible show awpOps _ _ _ _ _ _); conv => whnf)
    | (intro h; conv => whnf))
  all_goals (repeat (clear hK; clear K1))
  all_goals first | (with_reducible assumption) | exact atI_0 hn | exact ⟨_, _, _, _, _, rfl, rfl, by with_reducible assumption⟩ | skip
theorem c_GiveLoop (b : List Int) (n : Int) (hn : 0 ≤ n) (hl : b.length ≤ maxLen) : CallsF Try.prog 19 [.dat (.seq .bytes b), .dat (.i n)] true (fun res B => (∃ (w mem inn hd : Int) (code : List V.Ins), res = .tup [.agg [.dat (.i w), .dat (.i mem), .dat (.i inn), .dat (.seq .inss code)], .dat (.i hd)] ∧ (0 ≤ inn ∧ inn ≤ 1)) ∧ B = []) :=
  (c_GiveLp b n hn hl).toE (Q := fun res => ∃ (w mem inn hd : Int) (code : List V.Ins), res = .tup [.agg [.dat (.i w), .dat (.i mem), .dat (.i inn), .dat (.seq .inss code)], .dat (.i hd)] ∧ (0 ≤ inn ∧ inn ≤ 1)) fun res B' ⟨w, mem, inn, hd, code, h1, h2, h3⟩ => ⟨_, ⟨w, mem, inn, hd, code, rfl, h3⟩, by subst h1 h2; exact ⟨⟨rfl, rfl, rfl, rfl, trivial⟩, rfl, trivial⟩⟩
set_option maxHeartbeats 16000000 in
set_option maxRecDepth 100000 in
theorem h_l08Fact (b : List Int) (i g w : Int) (hi : 0 ≤ i) (hl : b.length ≤ maxLen) : CallsG Try.prog 80 [.ptr 0 0, .dat (.i w)] [.box [.dat (.seq .bytes b), .dat (.i i), .dat (.i g)]] 1 (fun res B => ∃ k a c n i' g' : Int, res = .agg [.dat (.i k), .dat (.i a), .dat (.i c), .dat (.i n)] ∧ B = [.box [.dat (.seq .bytes b), .dat (.i i'), .dat (.i g')]] ∧ 0 ≤ i') := by
  refine CallsG.of_awp tauOk mixOk Try.func80 rfl rfl rfl ?_
  conv => whnf
  repeat' (first
    | ((with_reducible refine Alt.l ?_); conv => whnf)
    | ((with_reducible refine fun (K1 : AX → AState → Prop) hK => ?_); conv => whnf)
    | ((with_reducible show K1 _ _); subst hK; conv => whnf)
    | (with_reducible exact rfl)
    | ((with_reducible refine sp_T ?_); conv => whnf)
    | ((with_reducible refine sp_F ?_); conv => whnf)
    | ((with_reducible refine sp_T' ?_); conv => whnf)
    | ((with_reducible refine sp_F' ?_); conv => whnf)
    | ((with_reducible refine sp_dF ?_ ?_); decide; conv => whnf)
    | ((with_reducible refine sp_dT ?_ ?_); decide; conv => whnf)
    | ((with_reducible refine sp_d (fun h => ?_) (fun h => ?_)) <;> first | contradiction | (subst h; conv => whnf) | (conv => whnf))
    | ((with_reducible refine sp_d' (fun h => ?_) (fun h => ?_)) <;> first | contradiction | (subst h; conv => whnf) | (conv => whnf))
    | ((with_reducible refine sp_eF ?_ ?_); decide; conv => whnf)
    | ((with_reducible refine sp_eT ?_); conv => whnf)
    | ((with_reducible refine sp_e (fun h => ?_) (fun h => ?_)) <;> first | contradiction | (subst h; conv => whnf) | (conv => whnf))
    | ((with_reducible refine sp_e' (fun h => ?_) (fun h => ?_)) <;> first | contradiction | (subst h; conv => whnf) | (conv => whnf))
    | ((with_reducible refine sp_n (fun h => ?_) (fun h => ?_)) <;> first | contradiction | (subst h; conv => whnf) | (conv => whnf))
    | ((with_reducible refine sp_n' (fun h => ?_) (fun h => ?_)) <;> first | contradiction | (subst h; conv => whnf) | (conv => whnf))
    | ((with_reducible refine sp_nb (fun h => ?_) (fun h => ?_)) <;> first | (exact Bool.noConfusion (Eq.trans (Eq.symm h) (show _ = true by with_reducible assumption))) | (exact Bool.noConfusion (Eq.trans (Eq.symm (show _ = false by with_reducible assumption)) h)) | (conv => whnf))
    | ((with_reducible refine sp_nb' (fun h => ?_) (fun h => ?_)) <;> first | (exact Bool.noConfusion (Eq.trans (Eq.symm h) (show _ = true by with_reducible assumption))) | (exact Bool.noConfusion (Eq.trans (Eq.symm (show _ = false by with_reducible assumption)) h)) | (conv => whnf))
    | ((with_reducible refine sp_b (fun h => ?_) (fun h => ?_)) <;> first | (exact Bool.noConfusion (Eq.trans (Eq.symm h) (show _ = true by with_reducible assumption))) | (exact Bool.noConfusion (Eq.trans (Eq.symm (show _ = false by with_reducible assumption)) h)) | (conv => whnf))
    | ((with_reducible refine sp_b' (fun h => ?_) (fun h => ?_)) <;> first | (exact Bool.noConfusion (Eq.trans (Eq.symm h) (show _ = true by with_reducible assumption))) | (exact Bool.noConfusion (Eq.trans (Eq.symm (show _ = false by with_reducible assumption)) h)) | (conv => whnf))
    | (refine ⟨(rfl : nodupB _ = true), rfl, ?_⟩; conv => whnf)
    | (with_reducible refine bnd2 ?_ ?_)
    | (with_reducible refine bnd2' ?_ ?_)
    | (with_reducible refine bndN ?_ ?_)
    | ((with_reducible refine and_of ?_ ?_); conv => whnf)
    | ((with_reducible refine gcI (g := 56) ?_); refine ⟨_, _, h_l01Below (hi := ?_) (hl := by with_reducible assumption) .., fun res B hRB => ?_⟩; rotate_right; obtain ⟨x, i', g', rfl, rfl, hx, hi'⟩ := hRB; conv => whnf)
    | ((with_reducible refine pcI (g := 63) ?_); refine ⟨_, s_l01In .., rfl, ?_⟩; rotate_right; conv => whnf)
    | ((with_reducible show Exists _); refine Exists.intro _ (And.intro (s_l01In ..) (And.intro rfl ?_)); rotate_right; conv => whnf)
    | ((with_reducible refine pcI (g := 60) ?_); refine ⟨_, s_WordOf .., rfl, ?_⟩; rotate_right; conv => whnf)
    | ((with_reducible show Exists _); refine Exists.intro _ (And.intro (s_WordOf ..) (And.intro rfl ?_)); rotate_right; conv => whnf)
    | ((with_reducible refine gcI (g := 55) ?_); refine ⟨_, _, h_l01Once (hi := ?_) (hl := by with_reducible assumption) .., fun res B hRB => ?_⟩; rotate_right; obtain ⟨x, i', g', rfl, rfl, hi'⟩ := hRB; conv => whnf)
    | ((with_reducible refine gcI (g := 120) ?_); refine ⟨_, _, h_l01Near (hi := ?_) (hl := by with_reducible assumption) .., fun res B hRB => ?_⟩; rotate_right; obtain ⟨x, i', g', rfl, rfl, hi'⟩ := hRB; conv => whnf)
    | ((with_reducible show awpOps _ _ _ _ _ _); conv => whnf)
    | (intro h; conv => whnf))
  all_goals (repeat (clear hK; clear K1))
  all_goals first | (with_reducible assumption) | exact ⟨_, _, _, _, _, _, rfl, rfl, by with_reducible assumption⟩ | omega | skip
theorem fact_and {a c : Bool} (h : (a && c) = true) : c = true := by simp at h; exact h.2
structure GivF (i : Int) (k : Nat) : Prop where
  hi : 0 ≤ i
  hk : k ≤ 20
theorem givF_0 {i : Int} (h : 0 ≤ i) : GivF i 0 := ⟨h, by decide⟩
theorem givF_1 {i' : Int} {k : Nat} (h : 0 ≤ i') (hk : (k : Int) < 20) : GivF i' (k + 1) := ⟨h, by omega⟩
theorem fact_1 {p : V.Prog} (hp : progP p = true) : factP p.w ⟨1, 0, 0, 0⟩ = true := by
  have := word_0 hp
  simp [factP, regP, inP, this]
set_option maxHeartbeats 4000000 in
set_option maxRecDepth 100000 in
theorem c_GiveFact (b : List Int) (n w mem inn : Int) (code : List V.Ins) (hn : 0 ≤ n) (hl : b.length ≤ maxLen) : CallsF Try.prog 22 [.dat (.seq .bytes b), .dat (.i n), .agg [.dat (.i w), .dat (.i mem), .dat (.i inn), .dat (.seq .inss code)]] true (fun res B => (∃ k a c n : Int, res = .agg [.dat (.i k), .dat (.i a), .dat (.i c), .dat (.i n)] ∧ (progP ⟨w, mem, inn, code⟩ = true → factP w ⟨k, a, c, n⟩ = true)) ∧ B = []) := by
  refine CallsF.of_awp tauOk mixOk Try.func22 rfl rfl rfl ?_
  conv => whnf
  repeat' (first
    | ((with_reducible refine Alt.r ?_); conv => whnf)
    | ((with_reducible refine fun (K1 : AX → AState → Prop) hK => ?_); conv => whnf)
    | ((with_reducible show K1 _ _); subst hK; conv => whnf)
    | (with_reducible exact rfl)
    | ((with_reducible refine sp_T ?_); conv => whnf)
    | ((with_reducible refine sp_F ?_); conv => whnf)
    | ((with_reducible refine sp_T' ?_); conv => whnf)
    | ((with_reducible refine sp_F' ?_); conv => whnf)
    | ((with_reducible refine sp_dF ?_ ?_); decide; conv => whnf)
    | ((with_reducible refine sp_dT ?_ ?_); decide; conv => whnf)
    | ((with_reducible refine sp_d (fun h => ?_) (fun h => ?_)) <;> first | contradiction | (subst h; conv => whnf) | (conv => whnf))
    | ((with_reducible refine sp_d' (fun h => ?_) (fun h => ?_)) <;> first | contradiction | (subst h; conv => whnf) | (conv => whnf))
    | ((with_reducible refine sp_eF ?_ ?_); decide; conv => whnf)
    | ((with_reducible refine sp_eT ?_); conv => whnf)
    | ((with_reducible refine sp_e (fun h => ?_) (fun h => ?_)) <;> first | contradiction | (subst h; conv => whnf) | (conv => whnf))
    | ((with_reducible refine sp_e' (fun h => ?_) (fun h => ?_)) <;> first | contradiction | (subst h; conv => whnf) | (conv => whnf))
    | ((with_reducible refine sp_n (fun h => ?_) (fun h => ?_)) <;> first | contradiction | (subst h; conv => whnf) | (conv => whnf))
    | ((with_reducible refine sp_n' (fun h => ?_) (fun h => ?_)) <;> first | contradiction | (subst h; conv => whnf) | (conv => whnf))
    | ((with_reducible refine sp_nb (fun h => ?_) (fun h => ?_)) <;> first | (exact Bool.noConfusion (Eq.trans (Eq.symm h) (show _ = true by with_reducible assumption))) | (exact Bool.noConfusion (Eq.trans (Eq.symm (show _ = false by with_reducible assumption)) h)) | (conv => whnf))
    | ((with_reducible refine sp_nb' (fun h => ?_) (fun h => ?_)) <;> first | (exact Bool.noConfusion (Eq.trans (Eq.symm h) (show _ = true by with_reducible assumption))) | (exact Bool.noConfusion (Eq.trans (Eq.symm (show _ = false by with_reducible assumption)) h)) | (conv => whnf))
    | ((with_reducible refine sp_b (fun h => ?_) (fun h => ?_)) <;> first | (exact Bool.noConfusion (Eq.trans (Eq.symm h) (show _ = true by with_reducible assumption))) | (exact Bool.noConfusion (Eq.trans (Eq.symm (show _ = false by with_reducible assumption)) h)) | (conv => whnf))
    | ((with_reducible refine sp_b' (fun h => ?_) (fun h => ?_)) <;> first | (exact Bool.noConfusion (Eq.trans (Eq.symm h) (show _ = true by with_reducible assumption))) | (exact Bool.noConfusion (Eq.trans (Eq.symm (show _ = false by with_reducible assumption)) h)) | (conv => whnf))
    | (refine ⟨(rfl : nodupB _ = true), rfl, ?_⟩; conv => whnf)
    | (with_reducible refine bnd2 ?_ ?_)
    | (with_reducible refine bnd2' ?_ ?_)
    | (with_reducible refine bndN ?_ ?_)
    | ((with_reducible refine and_of ?_ ?_); conv => whnf)
    | (refine Exists.intro ({x : (Int × Int) × Nat // GivF x.1.1 x.2}) (Exists.intro (fun ⟨⟨⟨i, g⟩, k⟩, hI⟩ => mkS Try.f22.ntmps [(5, .ptr 5 0), (6, .ptr 6 0), (7, .ptr 7 0), (8, .dat (.i k))] [(5, .box [.dat (.i w), .dat (.i mem), .dat (.i inn), .dat (.seq .inss code)]), (6, .box [.cell, .cell, .cell, .cell]), (7, .box [.dat (.seq .bytes b), .dat (.i i), .dat (.i g)])]) (Exists.intro (fun ⟨⟨⟨i, g⟩, k⟩, hI⟩ => 20 - k) (Exists.intro ⟨⟨⟨?_, ?_⟩, 0⟩, ?_⟩ (And.intro (SubP.sub (σ := [(5, some 5), (6, some 6), (7, some 13000)]) ⟨⟨rfl, rfl, rfl⟩, ⟨⟨rfl, rfl⟩, ⟨rfl, rfl⟩, ⟨rfl, rfl⟩, (wk_dat ?_), trivial⟩, ⟨⟨(wkC_dat ?_), (wkC_dat ?_), (wkC_dat ?_), (wkC_dat ?_), trivial⟩, ⟨rfl, rfl, rfl, rfl, trivial⟩, ⟨(wkC_dat ?_), (wkC_dat ?_), (wkC_dat ?_), trivial⟩, trivial⟩⟩) (fun ⟨⟨⟨i, g⟩, k⟩, hI⟩ => ?_))))); rotate_right; conv => whnf)
    | (refine Exists.intro ⟨⟨⟨?_, ?_⟩, k + 1⟩, ?_⟩ (And.intro ?_ (SubP.sub (σ := [(5, some 5), (6, some 6), (7, some 7)]) ⟨⟨rfl, rfl, rfl⟩, ⟨⟨rfl, rfl⟩, ⟨rfl, rfl⟩, ⟨rfl, rfl⟩, (wk_dat ?_), trivial⟩, ⟨⟨(wkC_dat ?_), (wkC_dat ?_), (wkC_dat ?_), (wkC_dat ?_), trivial⟩, ⟨rfl, rfl, rfl, rfl, trivial⟩, ⟨(wkC_dat ?_), (wkC_dat ?_), (wkC_dat ?_), trivial⟩, trivial⟩⟩)))
    | ((with_reducible refine fcI (g := 53) ?_); refine ⟨_, _, c_l11At (hl := ?_) .., rfl, fun res B hRB => ?_⟩; rotate_right; obtain ⟨rfl, rfl⟩ := hRB; conv => whnf)
    | ((with_reducible refine gcI (g := 80) ?_); refine ⟨_, _, h_l08Fact (hi := ?_) (hl := by with_reducible assumption) .., fun res B hRB => ?_⟩; rotate_right; obtain ⟨qk, qa, qc, qn, i', g', rfl, rfl, hi'⟩ := hRB; conv => whnf)
    | ((with_reducible refine pcI (g := 81) ?_); refine ⟨_, s_FactOk .., rfl, ?_⟩; rotate_right; conv => whnf)
    | ((with_reducible show Exists _); refine Exists.intro _ (And.intro (s_FactOk ..) (And.intro rfl ?_)); rotate_right; conv => whnf)
    | ((with_reducible show awpOps _ _ _ _ _ _); conv => whnf)
    | (intro h; conv => whnf))
  all_goals (repeat (clear hK; clear K1))
  all_goals first
    | (with_reducible assumption)
    | (with_reducible rfl)
    | exact atI_0 hn
    | exact hI.hi
    | exact givF_0 (atI_0 hn)
    | exact givF_1 (k := k) (by with_reducible assumption) (by with_reducible assumption)
    | exact ⟨⟨_, _, _, _, rfl, fun hp => fact_1 hp⟩, rfl⟩
    | exact ⟨_, _, _, _, rfl, fun hp => fact_1 hp⟩
    | exact ⟨_, _, _, _, rfl, fun _ => fact_and (by with_reducible assumption)⟩
    | exact ⟨⟨_, _, _, _, rfl, fun _ => fact_and (by with_reducible assumption)⟩, rfl⟩
    | exact (rfl : Dat.i ((0 : Nat) : Int) = Dat.int .i64 0)
    | exact congrArg (Dat.int .i64) (wrap_id (by omega) (by omega)).symm
    | (dsimp only; omega)
    | omega
    | skip
end Vg
