/- Programs are printed and read by the program: contracts. Condition: the program is in order. -/
import Derived.Test.YtgbjdifegilniaaGreatDoorFtxM
import Derived.Test.YtgbjdifegilniaaGreatDoorRg
namespace Vg
open Go Go.Proofs
set_option maxRecDepth 100000
set_option maxHeartbeats 40000000
/-! ### prefixes -/
theorem cp_n {s p : ByteArray} (h : (decide (p.size ≤ s.size ∧ s.extract 0 p.size = p)) = false) : cpX s p = (s, false) := if_neg (of_decide_eq_false h)
theorem cp_t {s p : ByteArray} (h : (decide (p.size ≤ s.size ∧ s.extract 0 p.size = p)) = true) : cpX s p = (s.extract p.size s.size, true) := if_pos (of_decide_eq_true h)
theorem cp_le {s p : ByteArray} (h : (decide (p.size ≤ s.size ∧ s.extract 0 p.size = p)) = true) : p.size ≤ s.size := (of_decide_eq_true h).1
theorem hp_1 {s p : ByteArray} (h : ¬ (s.size : Int) ≥ p.size) : decide (p.size ≤ s.size ∧ s.extract 0 p.size = p) = false := decide_eq_false (fun k => h (Int.ofNat_le.2 k.1))
theorem hp_2 {s p : ByteArray} (h : (s.size : Int) ≥ p.size) : decide (p.size ≤ s.size ∧ s.extract 0 p.size = p) = ((s.extract 0 p.size).toList == p.toList) := by
  have hl : p.size ≤ s.size := Int.ofNat_le.1 h
  cases e : ((s.extract 0 p.size).toList == p.toList) with
  | true => exact decide_eq_true ⟨hl, str_eq e⟩
  | false => exact decide_eq_false fun k => str_ne e k.2
theorem qd6 (s p : ByteArray) : CallsV Tryz.prog 102 [.dat (.str s), .dat (.str p)] (.dat (.bool (decide (p.size ≤ s.size ∧ s.extract 0 p.size = p)))) := by
  refine oV Tryz.func102 ⟨?_⟩
  repeat' (first | ((with_reducible refine fun (K1 : KT) hK => ?_); (with_reducible refine j5 ?_ ?_); exact rfl; conv => whnf) | ((with_reducible refine fun (K1 : KT) hK => ?_); conv => whnf) | ((with_reducible show K1 _ _); subst hK; conv => whnf) | (with_reducible exact rfl) | ((with_reducible refine a8 ?_); conv => whnf) | ((with_reducible refine tB ?_); conv => whnf) | ((with_reducible refine d7 (fun h => ?_) (fun h => ?_)) <;> first | contradiction | (subst h; conv => whnf) | (conv => whnf)) | (refine ⟨(rfl : d4 _ = true), rfl, ?_⟩; conv => whnf) | (with_reducible refine p9 ?_ ?_) | refine p3 ⟨?_⟩ ⟨?_⟩ | ((with_reducible show d3 _ _ _ _ _ _); conv => whnf) | (intro h; conv => whnf))
  all_goals repeat clear hK K1
  all_goals first | (with_reducible assumption) | exact congrArg Dat.bool (hp_1 asmR) | exact congrArg Dat.bool (hp_2 asmR) | omega | skip
theorem qd8 (s p : ByteArray) : CallsV Tryz.prog 79 [.dat (.str s), .dat (.str p)] (.tup [.dat (.str (cpX s p).1), .dat (.bool (cpX s p).2)]) := by
  refine oV Tryz.func79 ⟨?_⟩
  repeat' (first | ((with_reducible refine fun (K1 : KT) hK => ?_); (with_reducible refine j5 ?_ ?_); exact rfl; conv => whnf) | ((with_reducible refine fun (K1 : KT) hK => ?_); conv => whnf) | ((with_reducible show K1 _ _); subst hK; conv => whnf) | (with_reducible exact rfl) | ((with_reducible refine e9 (fun h => ?_) (fun h => ?_)) <;> first | (exact u2 h asmR) | (exact u2 asmR h) | (conv => whnf)) | (refine ⟨(rfl : d4 _ = true), rfl, ?_⟩; conv => whnf) | (with_reducible refine p9 ?_ ?_) | refine p3 ⟨?_⟩ ⟨?_⟩ | ((with_reducible first | refine s0 (g := 102) ?_ | show Exists _); refine ⟨_, qd6 .., rfl, ?_⟩; rotate_right; conv => whnf) | ((with_reducible show d3 _ _ _ _ _ _); conv => whnf) | (intro h; conv => whnf))
  all_goals repeat clear hK K1
  all_goals first | (with_reducible assumption) | exact trivial | (rw [cp_n asmR]; exact rfl) | (rw [cp_t asmR]; exact rfl) | (have e := cp_le asmR; omega) | omega | skip
theorem qd7 (s p : ByteArray) : CallsV Tryz.prog 43 [.dat (.str s), .dat (.str p)] (.tup [.dat (.str (cpX s p).1), .dat (.bool (cpX s p).2)]) := by
  refine oV Tryz.func43 ⟨?_⟩
  repeat' (first | ((with_reducible refine fun (K1 : KT) hK => ?_); (with_reducible refine j5 ?_ ?_); exact rfl; conv => whnf) | ((with_reducible refine fun (K1 : KT) hK => ?_); conv => whnf) | ((with_reducible show K1 _ _); subst hK; conv => whnf) | (with_reducible exact rfl) | (refine ⟨(rfl : d4 _ = true), rfl, ?_⟩; conv => whnf) | refine p3 ⟨?_⟩ ⟨?_⟩ | ((with_reducible first | refine s0 (g := 79) ?_ | show Exists _); refine ⟨_, qd8 .., rfl, ?_⟩; rotate_right; conv => whnf) | ((with_reducible show d3 _ _ _ _ _ _); conv => whnf) | (intro h; conv => whnf))
  all_goals repeat clear hK K1
  all_goals first | (with_reducible assumption) | exact trivial | exact rfl | skip
theorem i_CutM (x : ByteArray) : CallsV Tryz.prog 43 [.dat (.str (machS ++ x)), .dat (.str ⟨#[109, 97, 99, 104, 105, 110, 101, 32]⟩)] (.tup [.dat (.str x), .dat (.bool true)]) := by
  have h := qd7 (machS ++ x) machS
  rwa [cpX_app] at h
/-! ### the text of a program -/
theorem tL {i : V.Ins} {w n : Int} (h : p5 i w n = true) (hw : inP w 2 8 = true) (hn : inP n 1 40 = true) : (g5 i).size ≤ 30 := by
  obtain ⟨op, a, b, c⟩ := i
  have e := inB (by rw [hw, hn]; rfl) h
  have q1 := kP op
  have q2 := pV c
  have q3 := gU e.aa.1 e.aa.2
  have q4 := fF (n := b) (by have := e.bb; omega) e.bb.2
  have q6 := fi_r b q4
  have q5 : sp1.size = 1 := rfl
  have q7 : (r0 (j8 c)).size ≤ 7 := q2
  unfold g5
  simp only
  repeat' split
  all_goals ((try simp only [y8]); omega)
theorem uC {p : V.Prog} (h : p4 p = true) : inP p.w 2 8 = true := by
  have := cV h; simp [inP]; omega
theorem uB {p : V.Prog} (h : p4 p = true) : inP p.code.length 1 40 = true := by
  simp only [p4, Bool.and_eq_true] at h; exact h.1.2
theorem aG {p : V.Prog} (h : p4 p = true) : p.code.length ≤ 40 := by
  have := uB h; simp [inP] at this; omega
theorem pI {p : V.Prog} {k : Nat} (h : p4 p = true) (hk : (k : Int) < p.code.length) : p5 (p.code.getD (k : Int).toNat K.inss.dflt) p.w p.code.length = true := by
  simp only [p4, Bool.and_eq_true] at h
  have hk' : k < p.code.length := by omega
  rw [Int.toNat_natCast, List.getD_eq_getElem?_getD, List.getElem?_eq_getElem hk']
  exact List.all_eq_true.1 h.2 _ (List.getElem_mem hk')
theorem pr_q {p : V.Prog} (h : p4 p = true) : lB [p.w, p.mem, p.inn] = true := by
  simp [p4, inP] at h
  simp [lB, inP]
  omega
theorem bV {p : V.Prog} (h : p4 p = true) : ∀ k, k ≤ p.code.length → (t8 p k).size ≤ 400 + 31 * k
  | 0, _ => by
    have q := eM (pr_q h)
    have e : machS.size = 8 := rfl
    have e2 : nlS.size = 1 := rfl
    have e3 : [p.w, p.mem, p.inn].length = 3 := rfl
    rw [t8, y8, y8]; omega
  | k + 1, hk => by
    have ih := bV h k omG
    have q := tL (pI h (k := k) omG) (uC h) (uB h)
    have e2 : nlS.size = 1 := rfl
    rw [Int.toNat_natCast] at q
    rw [t8, y8, y8]; omega
theorem nI {p : V.Prog} (h : p4 p = true) {k : Nat} (hk : k ≤ p.code.length) : (t8 p k).size ≤ 2000 := by
  have := bV h k hk; have := aG h; omega
theorem prog_ne {p : V.Prog} (k : Nat) : (t8 p k).data.toList ≠ [] := fun e => iO p k (ByteArray.ext (Array.ext' e))
theorem pr_T {p : V.Prog} {k : Nat} (h : p4 p = true) (hk : (k : Int) < p.code.length) : y7 ⟨(p.code.getD (k : Int).toNat K.inss.dflt).op, (p.code.getD (k : Int).toNat K.inss.dflt).a, (p.code.getD (k : Int).toNat K.inss.dflt).b, (p.code.getD (k : Int).toNat K.inss.dflt).c⟩ p.w p.code.length = g5 (p.code.getD k K.inss.dflt) := by
  have q := pI h hk
  have e := cD (i := p.code.getD (k : Int).toNat K.inss.dflt) (by rw [uC h, uB h]; rfl) q
  rw [Int.toNat_natCast] at e ⊢
  exact e
theorem fp_step {p : V.Prog} {k : Nat} (h : p4 p = true) (hk : (k : Int) < p.code.length) : (⟨K.bytes, m4 (t8 p (k + 1))⟩ : (κ : K) × List κ.T) = ⟨K.bytes, m4 (t8 p k ++ (y7 ⟨(p.code.getD (k : Int).toNat K.inss.dflt).op, (p.code.getD (k : Int).toNat K.inss.dflt).a, (p.code.getD (k : Int).toNat K.inss.dflt).b, (p.code.getD (k : Int).toNat K.inss.dflt).c⟩ p.w p.code.length ++ { data := #[10] }))⟩ := by
  rw [pr_T h hk]; rfl
theorem fp_sz {p : V.Prog} {k : Nat} (h : p4 p = true) (hk : (k : Int) < p.code.length) : (y7 ⟨(p.code.getD (k : Int).toNat K.inss.dflt).op, (p.code.getD (k : Int).toNat K.inss.dflt).a, (p.code.getD (k : Int).toNat K.inss.dflt).b, (p.code.getD (k : Int).toNat K.inss.dflt).c⟩ p.w p.code.length).size ≤ 30 := by
  rw [pr_T h hk]
  have q := tL (pI h hk) (uC h) (uB h)
  rwa [Int.toNat_natCast] at q
theorem fp_end {p : V.Prog} {k : Nat} (hk : k ≤ p.code.length) (h : ¬ (k : Int) < p.code.length) : tC p = t8 p k := by
  have e : k = p.code.length := by omega
  rw [e]; rfl
theorem fp_z1 {p : V.Prog} {k : Nat} (h : p4 p = true) (hk : (k : Int) < p.code.length) : (y7 ⟨(p.code.getD (k : Int).toNat K.inss.dflt).op, (p.code.getD (k : Int).toNat K.inss.dflt).a, (p.code.getD (k : Int).toNat K.inss.dflt).b, (p.code.getD (k : Int).toNat K.inss.dflt).c⟩ p.w p.code.length ++ { data := #[10] }).size ≤ 1048576 := by
  have q := fp_sz h hk
  have e : (ByteArray.mk #[10]).size = 1 := rfl
  rw [y8]; omega
theorem fp_z2 {p : V.Prog} {k : Nat} (h : p4 p = true) (hk : (k : Int) < p.code.length) : (y7 ⟨(p.code.getD (k : Int).toNat K.inss.dflt).op, (p.code.getD (k : Int).toNat K.inss.dflt).a, (p.code.getD (k : Int).toNat K.inss.dflt).b, (p.code.getD (k : Int).toNat K.inss.dflt).c⟩ p.w p.code.length).size + (ByteArray.mk #[10]).size ≤ maxLen := by
  have q := fp_sz h hk
  have e : (ByteArray.mk #[10]).size = 1 := rfl
  have hm : maxLen = 9223372036854775807 := rfl
  omega
theorem fp_z3 {p : V.Prog} (h : p4 p = true) : (ByteArray.mk #[109, 97, 99, 104, 105, 110, 101, 32] ++ n5 [p.w, p.mem, p.inn]).size + (ByteArray.mk #[10]).size ≤ maxLen := by
  have q := nI h (Nat.zero_le _)
  rw [t8, y8] at q
  exact Nat.le_trans q (by decide)
theorem fp_z4 {p : V.Prog} (h : p4 p = true) : (ByteArray.mk #[109, 97, 99, 104, 105, 110, 101, 32]).size + (n5 [p.w, p.mem, p.inn]).size ≤ maxLen := by
  have q := nI h (Nat.zero_le _)
  rw [t8, y8, y8] at q
  exact Nat.le_trans (Nat.le_trans (Nat.le_add_right _ _) q) (by decide)
theorem nY (w mem inn : Int) (code : List V.Ins) (hp : p4 ⟨w, mem, inn, code⟩ = true) : CallsV Tryz.prog 15 [.agg [.dat (.i w), .dat (.i mem), .dat (.i inn), .dat (.seq .inss code)]] (.dat (.str (tC ⟨w, mem, inn, code⟩))) := by
  refine oV Tryz.func15 ⟨?_⟩
  repeat' (first | ((with_reducible refine fun (K1 : KT) hK => ?_); (with_reducible refine j5 ?_ ?_); exact rfl; conv => whnf) | ((with_reducible refine fun (K1 : KT) hK => ?_); conv => whnf) | ((with_reducible show K1 _ _); subst hK; conv => whnf) | (with_reducible exact rfl) | ((with_reducible refine d7 (fun h => ?_) (fun h => ?_)) <;> first | contradiction | (subst h; conv => whnf) | (conv => whnf)) | ((with_reducible refine e9 (fun h => ?_) (fun h => ?_)) <;> first | (exact u2 h asmR) | (exact u2 asmR h) | (conv => whnf)) | (refine ⟨(rfl : d4 _ = true), rfl, ?_⟩; conv => whnf) | (with_reducible refine q8 ?_ ?_) | refine p3 ⟨?_⟩ ⟨?_⟩ | (refine Exists.intro ({k : Nat // k ≤ code.length}) (Exists.intro (fun ⟨k, hk⟩ => x5 Tryz.f15.ntmps [(1, .ptr 1 0), (3, .ptr 3 0), (21, .dat (.seq .inss code)), (22, .dat (.i code.length)), (23, .dat (.i k))] [(1, .box [.dat (.i w), .dat (.i mem), .dat (.i inn), .dat (.seq .inss code)]), (3, .box [.ptr 3 0, .row 103]), (103, .row 5 .bytes (m4 (t8 ⟨w, mem, inn, code⟩ k)) false)]) (Exists.intro (fun ⟨k, hk⟩ => code.length - k) (Exists.intro ⟨0, Nat.zero_le _⟩ (And.intro (SubP.sub (σ := [(1, some 1), (3, some 3), (103, some 20001)]) ⟨⟨rfl, rfl, rfl⟩, ⟨⟨rfl, rfl⟩, ⟨rfl, rfl⟩, j0 ?_, j0 ?_, j0 ?_, trivial⟩, ⟨⟨g0 ?_, g0 ?_, g0 ?_, g0 ?_, trivial⟩, ⟨⟨rfl, rfl⟩, rfl, trivial⟩, ⟨⟨rfl, rfl⟩, ?_⟩, trivial⟩⟩) (fun ⟨k, hk⟩ => ?_))))); rotate_right; conv => whnf) | (refine Exists.intro (⟨k + 1, ?_⟩ : {k : Nat // k ≤ code.length}) (And.intro ?_ (SubP.sub (σ := [(1, some 1), (3, some 3), (103, some 36001)]) ⟨⟨rfl, rfl, rfl⟩, ⟨⟨rfl, rfl⟩, ⟨rfl, rfl⟩, j0 ?_, j0 ?_, j0 ?_, trivial⟩, ⟨⟨g0 ?_, g0 ?_, g0 ?_, g0 ?_, trivial⟩, ⟨⟨rfl, rfl⟩, rfl, trivial⟩, ⟨⟨rfl, rfl⟩, ?_⟩, trivial⟩⟩))) | ((with_reducible first | refine s0 (g := 44) ?_ | show Exists _); refine ⟨_, hY .., rfl, ?_⟩; rotate_right; conv => whnf) | ((with_reducible first | refine s0 (g := 41) ?_ | show Exists _); refine ⟨_, oY (hl := ?_) (hn := ?_) .., rfl, ?_⟩; rotate_right; conv => whnf) | ((with_reducible refine j3 (g := 39) ?_); refine ⟨_, _, aM (hx := ?_) (hs := ?_) .., zV ?_⟩; rotate_right; conv => whnf) | ((with_reducible refine j3 (g := 39) ?_); refine ⟨_, _, g_wsE (hs := ?_) .., zV ?_⟩; rotate_right; conv => whnf) | ((with_reducible first | refine s0 (g := 18) ?_ | show Exists _); refine ⟨_, qP .., rfl, ?_⟩; rotate_right; conv => whnf) | ((with_reducible refine j3 (g := 33) ?_); refine ⟨_, _, sP (hx := ?_) .., zV ?_⟩; rotate_right; conv => whnf) | ((with_reducible show d3 _ _ _ _ _ _); conv => whnf) | (intro h; conv => whnf))
  all_goals repeat clear hK K1
  all_goals first | (with_reducible assumption) | contradiction | exact congrArg Dat.str (fp_end (p := ⟨w, mem, inn, code⟩) hk asmR) | exact (prog_ne (p := ⟨w, mem, inn, code⟩) _ asmR).elim | exact fp_step (p := ⟨w, mem, inn, code⟩) hp asmR | exact Nat.le_trans (nI (p := ⟨w, mem, inn, code⟩) hp hk) (by decide) | exact Nat.le_trans (nI (p := ⟨w, mem, inn, code⟩) hp (Nat.zero_le _)) (by decide) | exact fp_z1 (p := ⟨w, mem, inn, code⟩) hp asmR | exact fp_z2 (p := ⟨w, mem, inn, code⟩) hp asmR | exact pr_q (p := ⟨w, mem, inn, code⟩) hp | exact (by decide : (3 : Nat) ≤ 1000) | exact fp_z3 (p := ⟨w, mem, inn, code⟩) hp | exact fp_z4 (p := ⟨w, mem, inn, code⟩) hp | ((with_reducible show (_ : Nat) < _); (dsimp only; omega)) | exact congrArg (Dat.int .i64) (tA asmR asmR).symm | omega | exact rfl | decide | skip
theorem qeq (w mem inn : Int) (code : List V.Ins) (hp : p4 ⟨w, mem, inn, code⟩ = true) : CallsF Tryz.prog 35 [.dat (.str (tC ⟨w, mem, inn, code⟩)), .dat (.str ⟨#[10]⟩)] true (fun res B => res = .row 0 ∧ B = [.row 9 .strs ((machS ++ n5 [w, mem, inn]) :: (code.map g5 ++ [(⟨#[]⟩ : ByteArray)])) false]) := by
  have h := qZ 10 (tC ⟨w, mem, inn, code⟩) (Nat.le_trans (nI hp (Nat.le_refl _)) (by decide))
  rw [qbp] at h
  exact h
section
variable {w mem inn : Int} {code : List V.Ins}
theorem uN : (((machS ++ n5 [w, mem, inn]) :: (code.map g5 ++ [(⟨#[]⟩ : ByteArray)])).length : Int) = code.length + 2 := by
  rw [List.length_cons, List.length_append, List.length_map]; simp; omega
theorem sl_w (hp : p4 ⟨w, mem, inn, code⟩ = true) : IntKind.i64.wrap ((((machS ++ n5 [w, mem, inn]) :: (code.map g5 ++ [(⟨#[]⟩ : ByteArray)])).length : Int) - 1) = ((code.length + 1 : Nat) : Int) := by
  have : code.length ≤ 40 := aG hp
  rw [uN, z1 omG omG]; omega
theorem sl_at (hp : p4 ⟨w, mem, inn, code⟩ = true) : ((machS ++ n5 [w, mem, inn]) :: (code.map g5 ++ [(⟨#[]⟩ : ByteArray)])).getD (IntKind.i64.wrap ((((machS ++ n5 [w, mem, inn]) :: (code.map g5 ++ [(⟨#[]⟩ : ByteArray)])).length : Int) - 1)).toNat K.strs.dflt = ⟨#[]⟩ := by
  rw [sl_w hp, Int.toNat_natCast, List.getD_cons_succ, List.getD_eq_getElem?_getD, List.getElem?_append_right (by rw [List.length_map]; exact Nat.le_refl _), List.length_map, Nat.sub_self]; rfl
theorem sl_tk (hp : p4 ⟨w, mem, inn, code⟩ = true) : ((machS ++ n5 [w, mem, inn]) :: (code.map g5 ++ [(⟨#[]⟩ : ByteArray)])).take (IntKind.i64.wrap ((((machS ++ n5 [w, mem, inn]) :: (code.map g5 ++ [(⟨#[]⟩ : ByteArray)])).length : Int) - 1)).toNat = (machS ++ n5 [w, mem, inn]) :: code.map g5 := by
  rw [sl_w hp, Int.toNat_natCast, List.take_succ_cons, List.take_left' (by rw [List.length_map])]
end
theorem qdv (w mem inn : Int) (code : List V.Ins) (hp : p4 ⟨w, mem, inn, code⟩ = true) : CallsV Tryz.prog 42 [.dat (.str (tC ⟨w, mem, inn, code⟩))] (.dat (.seq .strs ((machS ++ n5 [w, mem, inn]) :: code.map g5))) := by
  refine oV Tryz.func42 ⟨?_⟩
  repeat' (first | ((with_reducible refine fun (K1 : KT) hK => ?_); (with_reducible refine j5 ?_ ?_); exact rfl; conv => whnf) | ((with_reducible refine Alt.l ?_); conv => whnf) | ((with_reducible refine fun (K1 : KT) hK => ?_); conv => whnf) | ((with_reducible show K1 _ _); subst hK; conv => whnf) | (with_reducible exact rfl) | ((with_reducible refine vA (fun h => ?_) (fun h => ?_)) <;> first | (exact u2 h asmR) | (exact u2 asmR h) | (conv => whnf)) | (refine ⟨(rfl : d4 _ = true), rfl, ?_⟩; conv => whnf) | (with_reducible refine q8 ?_ ?_) | (with_reducible refine p9 ?_ ?_) | refine p3 ⟨?_⟩ ⟨?_⟩ | ((with_reducible refine aB (g := 35) ?_); refine ⟨_, _, qeq (hp := ?_) .., rfl, zV ?_⟩; rotate_right; conv => whnf) | ((with_reducible show d3 _ _ _ _ _ _); conv => whnf) | (intro h; conv => whnf))
  all_goals repeat clear hK K1
  all_goals first | (with_reducible assumption) | exact absurd (str_eq asmR) (iO _ _) | exact absurd (str_eq h) (iO _ _) | exact congrArg (Dat.seq K.strs) (sl_tk hp).symm | exact absurd (sl_at hp) (str_ne asmR) | (rw [sl_w hp]; first | omega | (rw [Int.toNat_natCast]; have q := uN (w := w) (mem := mem) (inn := inn) (code := code); omega) | (have q := uN (w := w) (mem := mem) (inn := inn) (code := code); omega)) | skip
section
variable {w mem inn : Int} {code : List V.Ins} {k : Nat}
theorem co_k (hk : (k : Int) < (code.map g5).length) : k + 1 ≤ code.length := by rw [List.length_map] at hk; omega
theorem co_dec (hk : (k : Int) < (code.map g5).length) : code.length - (k + 1) < code.length - k := by rw [List.length_map] at hk; omega
theorem co_w (hp : p4 ⟨w, mem, inn, code⟩ = true) (hk : (k : Int) < (code.map g5).length) : IntKind.i64.wrap ((k : Int) + 1) = ((k + 1 : Nat) : Int) := by
  rw [List.length_map] at hk
  have : code.length ≤ 40 := aG hp
  rw [z1 omG omG]; omega
theorem co_m {x : V.Ins} (hp : p4 ⟨w, mem, inn, code⟩ = true) : (code.take k).length + [x].length ≤ maxLen := by
  have : code.length ≤ 40 := aG hp
  rw [List.length_take]
  have hm : maxLen = 9223372036854775807 := rfl
  show min k code.length + 1 ≤ _
  omega
theorem co_b {x : V.Ins} (hp : p4 ⟨w, mem, inn, code⟩ = true) : ((code.take k).length + [x].length) * 32 ≤ 140737488355328 := by
  have : code.length ≤ 40 := aG hp
  rw [List.length_take]
  show (min k code.length + 1) * 32 ≤ _
  omega
theorem co_push (hk : (k : Int) < (code.map g5).length) : code.take (k + 1) = code.take k ++ [⟨(code.getD (k : Int).toNat K.inss.dflt).op, (code.getD (k : Int).toNat K.inss.dflt).a, (code.getD (k : Int).toNat K.inss.dflt).b, (code.getD (k : Int).toNat K.inss.dflt).c⟩] := by
  have hk' : k < code.length := by rw [List.length_map] at hk; omega
  rw [List.take_succ_eq_append_getElem hk', Int.toNat_natCast, List.getD_eq_getElem?_getD, List.getElem?_eq_getElem hk']; rfl
theorem co_all (hk : ¬ (k : Int) < (code.map g5).length) : code.take k = code := List.take_of_length_le (by rw [List.length_map] at hk; omega)
theorem co_2 (hp : p4 ⟨w, mem, inn, code⟩ = true) : ¬ (((machS ++ n5 [w, mem, inn]) :: code.map g5).length : Int) < 2 := by
  have q := uB hp
  simp [inP] at q
  rw [List.length_cons, List.length_map]; omega
theorem co_n (hp : p4 ⟨w, mem, inn, code⟩ = true) : IntKind.i64.wrap ((((machS ++ n5 [w, mem, inn]) :: code.map g5).length : Int) - 1) = code.length := by
  have : code.length ≤ 40 := aG hp
  rw [List.length_cons, List.length_map, z1 omG omG]; omega
theorem co_pos : (1 : Int) ≤ ((machS ++ n5 [w, mem, inn]) :: code.map g5).length := by rw [List.length_cons]; omega
end
theorem qd4 (w n : Int) (code : List V.Ins) (k : Nat) (mem inn : Int) (hp : p4 ⟨w, mem, inn, code⟩ = true) (hk : (k : Int) < (code.map g5).length) (hn : n = code.length) : CallsV Tryz.prog 17 [.dat (.str ((code.map g5).getD (k : Int).toNat K.strs.dflt)), .dat (.i w), .dat (.i n)] (.tup [.agg [.dat (.i (code.getD (k : Int).toNat K.inss.dflt).op), .dat (.i (code.getD (k : Int).toNat K.inss.dflt).a), .dat (.i (code.getD (k : Int).toNat K.inss.dflt).b), .dat (.i (code.getD (k : Int).toNat K.inss.dflt).c)], .dat (.bool true)]) := by
  rw [List.length_map] at hk
  subst hn
  have q := pI (p := ⟨w, mem, inn, code⟩) hp hk
  have e : (code.map g5).getD (k : Int).toNat K.strs.dflt = g5 (code.getD (k : Int).toNat K.inss.dflt) := mapD (κ := .inss) hk
  have e2 := pX q (uC hp) (uB hp)
  rw [cD (by rw [show inP w 2 8 = true from uC hp, show inP (code.length : Int) 1 40 = true from uB hp]; rfl) q] at e2
  have h := jY (g5 (code.getD (k : Int).toNat K.inss.dflt)) w code.length (Nat.le_trans (tL q (uC hp) (uB hp)) (by decide))
  rw [e]
  rw [show pA (g5 (code.getD (k : Int).toNat K.inss.dflt)) w code.length = (code.getD (k : Int).toNat K.inss.dflt, true) from e2] at h
  exact h
theorem qdz (w mem inn : Int) (code : List V.Ins) (hp : p4 ⟨w, mem, inn, code⟩ = true) : CallsV Tryz.prog 14 [.dat (.str (tC ⟨w, mem, inn, code⟩))] (.tup [.agg [.dat (.i w), .dat (.i mem), .dat (.i inn), .dat (.seq .inss code)], .dat (.bool true)]) := by
  refine oV Tryz.func14 ⟨?_⟩
  repeat' (first | ((with_reducible refine fun (K1 : KT) hK => ?_); (with_reducible refine j5 ?_ ?_); exact rfl; conv => whnf) | ((with_reducible refine fun (K1 : KT) hK => ?_); (with_reducible refine aK ?_ ?_); exact rfl; (conv => whnf); simp only [List.nil_append, List.cons_append]) | ((with_reducible refine sH ?_); conv => whnf) | ((with_reducible refine tH ?_ ?_); exact rfl; conv => whnf) | ((with_reducible refine rH ?_ ?_); exact rfl) | ((with_reducible refine yH ?_)) | ((with_reducible refine zH ?_ ?_); exact rfl; conv => whnf) | ((with_reducible refine xH ?_ ?_); exact rfl) | ((with_reducible refine vH ?_ ?_); exact rfl; conv => whnf) | ((with_reducible show WR _ _ _ _ _ _ _ _ _); refine uH rfl ?_) | ((with_reducible show WEach _ _); refine wH rfl ?_; conv => whnf) | ((with_reducible refine fun (K1 : KT) hK => ?_); conv => whnf) | ((with_reducible show K1 _ _); subst hK; conv => whnf) | (with_reducible exact rfl) | ((with_reducible refine a8 ?_); conv => whnf) | ((with_reducible refine m9 ?_); conv => whnf) | ((with_reducible refine f9 ?_); conv => whnf) | ((with_reducible refine d7 (fun h => ?_) (fun h => ?_)) <;> first | contradiction | (subst h; conv => whnf) | (conv => whnf)) | ((with_reducible refine pE (fun h => ?_) (fun h => ?_)) <;> first | contradiction | (subst h; conv => whnf) | (conv => whnf)) | ((with_reducible refine e9 (fun h => ?_) (fun h => ?_)) <;> first | (exact u2 h asmR) | (exact u2 asmR h) | (conv => whnf)) | ((with_reducible refine lD (fun h => ?_) (fun h => ?_)) <;> first | (exact u2 h asmR) | (exact u2 asmR h) | (conv => whnf)) | (refine ⟨(rfl : d4 _ = true), rfl, ?_⟩; conv => whnf) | (with_reducible refine q8 ?_ ?_) | (with_reducible refine p9 ?_ ?_) | (with_reducible refine fE ?_ ?_) | refine p3 ⟨?_⟩ ⟨?_⟩ | (refine Exists.intro ({k : Nat // k ≤ code.length}) (Exists.intro (fun ⟨k, hk⟩ => x5 Tryz.f14.ntmps [(0, .dat (.str (tC ⟨w, mem, inn, code⟩))), (2, .ptr 2 0), (4, .dat (.seq .strs ((machS ++ n5 [w, mem, inn]) :: code.map g5))), (9, .ptr 9 0), (55, .dat (.seq .strs (code.map g5))), (56, .dat (.i (code.map g5).length)), (57, .dat (.i k))] [(2, .box [.dat (.i 0), .dat (.i 0), .dat (.i 0), .nils]), (9, .box [.dat (.i w), .dat (.i mem), .dat (.i inn), .row 109]), (109, .row 50 .inss (code.take k) false)]) (Exists.intro (fun ⟨k, hk⟩ => code.length - k) (Exists.intro ⟨0, Nat.zero_le _⟩ (And.intro (SubP.sub (σ := [(2, some 2), (9, some 9), (109, none)]) ⟨⟨rfl, rfl, rfl⟩, ⟨j0 ?_, ⟨rfl, rfl⟩, j0 ?_, ⟨rfl, rfl⟩, j0 ?_, j0 ?_, j0 ?_, trivial⟩, ⟨⟨g0 ?_, g0 ?_, g0 ?_, trivial, trivial⟩, ⟨g0 ?_, g0 ?_, g0 ?_, rfl, trivial⟩, ?_, trivial⟩⟩) (fun ⟨k, hk⟩ => ?_))))); rotate_right; conv => whnf) | (refine Exists.intro (⟨k + 1, ?_⟩ : {k : Nat // k ≤ code.length}) (And.intro ?_ (SubP.sub (σ := [(2, some 2), (9, some 9), (109, some 78)]) ⟨⟨rfl, rfl, rfl⟩, ⟨j0 ?_, ⟨rfl, rfl⟩, j0 ?_, ⟨rfl, rfl⟩, j0 ?_, j0 ?_, j0 ?_, trivial⟩, ⟨⟨g0 ?_, g0 ?_, g0 ?_, trivial, trivial⟩, ⟨g0 ?_, g0 ?_, g0 ?_, rfl, trivial⟩, ⟨⟨rfl, rfl⟩, ?_⟩, trivial⟩⟩))) | (refine Exists.intro (⟨k + 1, ?_⟩ : {k : Nat // k ≤ code.length}) (And.intro ?_ (SubP.sub (σ := [(2, some 2), (9, some 9), (109, some 79)]) ⟨⟨rfl, rfl, rfl⟩, ⟨j0 ?_, ⟨rfl, rfl⟩, j0 ?_, ⟨rfl, rfl⟩, j0 ?_, j0 ?_, j0 ?_, trivial⟩, ⟨⟨g0 ?_, g0 ?_, g0 ?_, trivial, trivial⟩, ⟨g0 ?_, g0 ?_, g0 ?_, rfl, trivial⟩, ⟨⟨rfl, rfl⟩, ?_⟩, trivial⟩⟩))) | ((with_reducible first | refine s0 (g := 42) ?_ | show Exists _); refine ⟨_, qdv (hp := ?_) .., rfl, ?_⟩; rotate_right; conv => whnf) | ((with_reducible first | refine s0 (g := 43) ?_ | show Exists _); refine ⟨_, i_CutM .., rfl, ?_⟩; rotate_right; conv => whnf) | ((with_reducible first | refine s0 (g := 37) ?_ | show Exists _); refine ⟨_, iY (hl := ?_) (hn := ?_) .., rfl, ?_⟩; rotate_right; conv => whnf) | ((with_reducible first | refine s0 (g := 17) ?_ | show Exists _); refine ⟨_, qd4 (hp := by assumption) (hk := by assumption) (hn := ?_) .., rfl, ?_⟩; rotate_right; conv => whnf) | ((with_reducible first | refine s0 (g := 44) ?_ | show Exists _); refine ⟨_, hY .., rfl, ?_⟩; rotate_right; conv => whnf) | ((with_reducible first | refine s0 (g := 15) ?_ | show Exists _); refine ⟨_, nY (hp := ?_) .., rfl, ?_⟩; rotate_right; conv => whnf) | ((with_reducible show d3 _ _ _ _ _ _); conv => whnf) | (intro h; conv => whnf))
  all_goals repeat clear hK K1
  all_goals first | (with_reducible assumption) | contradiction | exact trivial | exact absurd asmR (co_2 hp) | exact absurd h (co_2 hp) | exact absurd rfl h | (have e := co_all asmR; first | (rw [e]; first | exact hp | exact rfl | exact ⟨rfl, rfl, rfl, rfl, trivial⟩) | (rw [e, hp] at h; cases h) | (have e2 := str_ne h; rw [e] at e2; exact absurd rfl e2)) | exact co_k asmR | exact co_dec asmR | exact congrArg (Dat.int .i64) (co_w hp asmR).symm | exact co_m hp | exact co_b hp | exact co_n hp | exact co_pos | exact (tK (co_push asmR)) | exact pr_q (p := ⟨w, mem, inn, code⟩) hp | exact (by decide : (3 : Nat) ≤ 1000) | exact Int.natCast_nonneg _ | exact rfl | omega | decide | exact Nat.succ_pos _ | skip
end Vg
