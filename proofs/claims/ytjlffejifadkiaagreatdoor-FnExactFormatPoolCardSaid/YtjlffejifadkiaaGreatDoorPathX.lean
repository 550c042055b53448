/- Paths: the reference's step in plain words is the program's. Condition: the path is one under way (PI). -/
import Derived.Test.YtjlffejifadkiaaGreatDoorPathV
import Derived.Test.YtjlffejifadkiaaGreatDoorPathL
import Derived.Test.YtjlffejifadkiaaGreatDoorPathU3
import Derived.Test.YtjlffejifadkiaaGreatDoorPathU4
import Derived.Test.YtjlffejifadkiaaGreatDoorPathW
namespace Vg
open Go Go.Proofs
section
variable {p : V.Prog} {s : V.Path} {i : V.Ins} {mm : List V.Term} {x t : V.Term}
theorem lr_eq (h1 : 1 ≤ p.mem) : ∀ j : Nat, (qb6 p mm x j).2 = (qa4 p mm x j).2 ∧ ((qa4 p mm x j).2 = true → (qb6 p mm x j).1 = (qa4 p mm x j).1)
  | 0 => ⟨rfl, fun _ => rfl⟩
  | j + 1 => by
    obtain ⟨i1, i2⟩ := lr_eq h1 j
    have e : (p.mem - 2 - (j : Int)).toNat = p.mem.toNat - 2 - j := by omega
    rw [qb6, qa4, i1]
    by_cases c : (qa4 p mm x j).2 = true
    · rw [if_pos c, if_pos c, i2 c, e]
      unfold qcs qg8
      by_cases d : (mkP 14 1 0 [cT p.w (p.mem - 2 - j), x]).2 = true
      · rw [if_pos d, if_pos d]; exact ⟨rfl, fun _ => rfl⟩
      · rw [if_neg d, if_neg d]; exact ⟨rfl, fun q => by cases q⟩
    · rw [if_neg c, if_neg c]
      exact ⟨i1.trans (by simpa using c), fun q => by cases q⟩
theorem sl_step {k : Nat} (h : k < mm.length) : (qfo p mm x t k ++ mm.drop k).set (k : Int).toNat (qcs p (k : Int) x t (kAt mm k)).1 = qfo p mm x t (k + 1) ++ mm.drop (k + 1) := by
  rw [Int.toNat_natCast, List.set_append_right _ _ (by simp [qfo])]
  simp only [qfo, List.length_map, List.length_range, Nat.sub_self, List.drop_eq_getElem_cons h, List.set_cons_zero, List.range_succ, List.map_append, List.map_cons, List.map_nil, List.append_assoc, List.cons_append, List.nil_append]
theorem sr_eq : ∀ k : Nat, k ≤ mm.length → (qcf p mm x t k).2 = qcl p mm x t k ∧ (qcl p mm x t k = true → (qcf p mm x t k).1 = qfo p mm x t k ++ mm.drop k)
  | 0, _ => ⟨rfl, fun _ => rfl⟩
  | k + 1, hk => by
    obtain ⟨i1, i2⟩ := sr_eq k omG
    rw [qcf, qcl, i1]
    by_cases c : qcl p mm x t k = true
    · rw [if_pos c, i2 c, c, Bool.true_and]
      by_cases d : (qg8 p x k).2 = true
      · have e : qcs p (k : Int) x t (kAt mm k) = mkP 17 p.w 0 [(qg8 p x k).1, t, mm.getD (k : Int).toNat K.terms.dflt] := by
          unfold qcs
          rw [if_pos (show (mkP 14 1 0 [cT p.w (k : Int), x]).2 = true from d), Int.toNat_natCast]; rfl
        rw [if_pos d, ← sl_step (p := p) (x := x) (t := t) (show k < mm.length by omega), e]
        exact ⟨rfl, fun _ => rfl⟩
      · have e : qcs p (k : Int) x t (kAt mm k) = (zT, false) := by
          unfold qcs
          rw [if_neg (show ¬ (mkP 14 1 0 [cT p.w (k : Int), x]).2 = true from d)]
        rw [if_neg d, e]
        exact ⟨rfl, fun q => by cases q⟩
    · rw [if_neg c, i1, show qcl p mm x t k = false by simpa using c]
      exact ⟨rfl, fun q => by cases q⟩
theorem no_eq (hP : PI p s) (hk : qav p s i = 0) : (noR p s i).2 = (qay p s i).2 ∧ ((qay p s i).2 = true → (noR p s i).1 = (qay p s i).1) := by
  have hM := qa8 hP.hp
  have ml := hP.ml
  by_cases c14 : i.op = 14
  · have e : qay p s i = ({ s with code := 1 }, true) := by unfold qay; simp [c14]
    have e2 : noR p s i = ({ s with code := 1 }, true) := if_pos c14
    rw [e, e2]; exact ⟨rfl, fun _ => rfl⟩
  by_cases c7 : i.op = 7
  · have e : qay p s i = ({ s with regs := s.regs.set i.a.toNat (qh3 p s.mem (rgT s i.b)).1, pc := s.pc + 1 }, (qh3 p s.mem (rgT s i.b)).2) := by unfold qay; simp [c7]
    have e2 : noR p s i = ({ s with regs := s.regs.set i.a.toNat (qez p s.mem (rgT s i.b)).1, pc := s.pc + 1 }, (qez p s.mem (rgT s i.b)).2) := by
      unfold noR
      rw [if_neg c14, if_neg (by rw [hk]; decide), if_pos c7]
    rw [e, e2]
    unfold qez qh3
    by_cases c : (rgT s i.b).op = 0
    · rw [if_pos c, if_pos c]; exact ⟨rfl, fun _ => rfl⟩
    · rw [if_neg c, if_neg c]
      have q := lr_eq (mm := s.mem) (x := rgT s i.b) hM.1 (p.mem.toNat - 1)
      exact ⟨q.1, fun h => by rw [q.2 h]⟩
  by_cases c8 : i.op = 8
  · have e : qay p s i = ({ s with mem := (qgd p s.mem (rgT s i.a) (rgT s i.b)).1, pc := s.pc + 1 }, (qgd p s.mem (rgT s i.a) (rgT s i.b)).2) := by unfold qay; simp [c8]
    have e2 : noR p s i = ({ s with mem := (qet p s.mem (rgT s i.a) (rgT s i.b)).1, pc := s.pc + 1 }, (qet p s.mem (rgT s i.a) (rgT s i.b)).2) := by
      unfold noR
      rw [if_neg c14, if_neg (by rw [hk]; decide), if_neg c7, if_pos c8]
    rw [e, e2]
    unfold qet qgd
    by_cases c : (rgT s i.a).op = 0
    · rw [if_pos c, if_pos c]; exact ⟨rfl, fun _ => rfl⟩
    · rw [if_neg c, if_neg c]
      have q := sr_eq (p := p) (mm := s.mem) (x := rgT s i.a) (t := rgT s i.b) p.mem.toNat omG
      have hd : s.mem.drop p.mem.toNat = [] := List.drop_eq_nil_of_le omG
      by_cases d : qcl p s.mem (rgT s i.a) (rgT s i.b) p.mem.toNat = true
      · rw [if_pos d]
        exact ⟨q.1.trans d, fun _ => by rw [q.2 d, hd, List.append_nil]⟩
      · rw [if_neg d]
        exact ⟨q.1.trans (by simpa using d), fun h => by cases h⟩
  · rw [no_go c14 hk c7 c8]; exact ⟨rfl, fun _ => rfl⟩
/-! ### the reference's step, path by path -/
abbrev up (s : V.Path) : V.Path := { s with steps := s.steps + 1 }
abbrev insAt (p : V.Prog) (s : V.Path) : V.Ins := p.code.getD s.pc.toNat K.inss.dflt
theorem qmv (h : ¬ qav p s i = 0) : qcb i = false := by
  unfold qav at h
  unfold qcb
  refine decide_eq_false (fun q => ?_)
  by_cases c5 : i.op = 5
  · omega
  by_cases c6 : i.op = 6
  · omega
  by_cases c11 : i.op = 11
  · omega
  by_cases c12 : i.op = 12
  · omega
  rw [if_neg (fun e => c5 e.1), if_neg (fun e => c6 e.1), if_neg (fun e => c11 e.1), if_neg (fun e => c12 e.1)] at h
  exact h rfl
theorem ask_nB (h : qcb i = false) : qb1 p s i = (zT, true) := by
  unfold qcb at h
  have h := of_decide_eq_false h
  unfold qb1
  rw [if_neg omG]
  by_cases c : i.op = 3
  · rw [if_pos c, if_neg omG]
  · rw [if_neg c, if_neg omG, if_neg omG]
theorem ask_t (h : qcb i = false) : (qb1 p s i).2 = true := by rw [ask_nB h]
theorem isC_not {t : V.Term} (ht : okT t = true) (hw : t.w = 1) (h0 : ¬ (t.op = 0 ∧ t.n = 0)) (h1 : ¬ (t.op = 0 ∧ t.n = 1)) : ¬ t.op = 0 := fun e => by
  have q := qeg ht e
  rw [hw] at q
  have h3 := (qas q).2
  have e2 : (2 : Int) ^ (1 : Int).toNat = 2 := rfl
  rw [e2] at h3
  omega
theorem st_big (hc : s.code = 0) (h4 : ¬ 400 ≤ s.steps) (hp : ¬ s.pc = p.code.length) (h : (qb1 p (up s) (insAt p s)).2 = false) : qa7 p s = [{ up s with code := 9 }] := by
  have hk : qav p (up s) (insAt p s) = 0 := by
    by_cases c : qav p (up s) (insAt p s) = 0
    · exact c
    · rw [ask_nB (qmv c)] at h; cases h
  rw [qob hc h4 hp hk, dv_1 h]
structure St (p : V.Prog) (s : V.Path) : Prop where
  c : s.code = 0
  n : ¬ 400 ≤ s.steps
  q : ¬ s.pc = p.code.length
theorem qjo (ha : qcb i = true) : qav p s i = 0 := by
  by_cases c : qav p s i = 0
  · exact c
  · have := qmv c
    rw [ha] at this; cases this
theorem ny_0 (h : (qb1 p s i).1.op = 0 ∧ (qb1 p s i).1.n = 0) : NoYes p s i := ⟨fun q => by omega⟩
theorem st_big' (h : St p s) (h1 : (qb1 p (up s) (insAt p s)).2 = false) : qa7 p s = [{ up s with code := 9 }] := st_big h.c h.n h.q h1
theorem sr_no (h : St p s) (hP : PI p (up s)) (h1 : (qb1 p (up s) (insAt p s)).2 = true) (ha : NoYes p (up s) (insAt p s)) (hn : (noR p (up s) (insAt p s)).2 = false) : qa7 p s = [{ up s with code := 9 }] := by
  have hk : qav p (up s) (insAt p s) = 0 := by
    by_cases c : qav p (up s) (insAt p s) = 0
    · exact c
    · have h14 : ¬ (insAt p s).op = 14 := fun e => c (by
        unfold qav
        rw [if_neg omG, if_neg omG, if_neg omG, if_neg omG])
      rw [no_st h14 rfl c] at hn; cases hn
  rw [qob h.c h.n h.q hk, dv_3 h1 ha ((no_eq hP hk).1.symm.trans hn)]
theorem sr_go (h : St p s) (hP : PI p (up s)) (h1 : (qb1 p (up s) (insAt p s)).2 = true) (ha : NoYes p (up s) (insAt p s)) (hr : qcb (insAt p s) = false ∨ (qb1 p (up s) (insAt p s)).1.op = 0) (hn : (noR p (up s) (insAt p s)).2 = true) : qa7 p s = [(noR p (up s) (insAt p s)).1] := by
  by_cases hk : qav p (up s) (insAt p s) = 0
  · have e := no_eq hP hk
    have hf := e.1.symm.trans hn
    rw [qob h.c h.n h.q hk, dv_4 h1 ha hf hr, e.2 hf]
  · have h14 : ¬ (insAt p s).op = 14 := fun e => hk (by
        unfold qav
        rw [if_neg omG, if_neg omG, if_neg omG, if_neg omG])
    rw [no_st h14 rfl hk, stp_4 h.c h.n h.q hk]
theorem sr_yes (h : St p s) (ha : qcb (insAt p s) = true) (h1 : (qb1 p (up s) (insAt p s)).2 = true) (hc : (qb1 p (up s) (insAt p s)).1.op = 0 ∧ (qb1 p (up s) (insAt p s)).1.n = 1) : qa7 p s = [qdc (up s) (insAt p s)] := by
  rw [qob h.c h.n h.q (qjo ha), dv_2 h1 ha hc]
theorem fork_no {c : List V.Term} {t : List Int} : noR p { s with cond := c, turns := t } i = ({ (noR p s i).1 with cond := c, turns := t }, (noR p s i).2) := by
  have e1 : qav p { s with cond := c, turns := t } i = qav p s i := rfl
  have e2 : qay p { s with cond := c, turns := t } i = ({ (qay p s i).1 with cond := c, turns := t }, (qay p s i).2) := by
    unfold qay
    dsimp only
    by_cases c1 : i.op = 1
    · rw [if_pos c1, if_pos c1]
    rw [if_neg c1, if_neg c1]
    by_cases c2 : i.op = 2
    · rw [if_pos c2, if_pos c2]
    rw [if_neg c2, if_neg c2]
    by_cases c3 : i.op = 3
    · rw [if_pos c3, if_pos c3]
    rw [if_neg c3, if_neg c3]
    by_cases c4 : i.op = 4
    · rw [if_pos c4, if_pos c4]
    rw [if_neg c4, if_neg c4]
    by_cases c5 : i.op = 5
    · rw [if_pos c5, if_pos c5]
    rw [if_neg c5, if_neg c5]
    by_cases c6 : i.op = 6
    · rw [if_pos c6, if_pos c6]
    rw [if_neg c6, if_neg c6]
    by_cases c7 : i.op = 7
    · rw [if_pos c7, if_pos c7]
    rw [if_neg c7, if_neg c7]
    by_cases c8 : i.op = 8
    · rw [if_pos c8, if_pos c8]
    rw [if_neg c8, if_neg c8]
    by_cases c9 : i.op = 9
    · rw [if_pos c9, if_pos c9]
    rw [if_neg c9, if_neg c9]
    by_cases c11 : i.op = 11
    · rw [if_pos c11, if_pos c11]
    rw [if_neg c11, if_neg c11]
    by_cases c12 : i.op = 12
    · rw [if_pos c12, if_pos c12]
    rw [if_neg c12, if_neg c12]
    by_cases c14 : i.op = 14
    · rw [if_pos c14, if_pos c14]
    rw [if_neg c14, if_neg c14]
  unfold noR
  rw [e1, e2]
  dsimp only
  by_cases c14 : i.op = 14
  · rw [if_pos c14, if_pos c14]
  rw [if_neg c14, if_neg c14]
  by_cases ck : qav p s i ≠ 0
  · rw [if_pos ck, if_pos ck]
  rw [if_neg ck, if_neg ck]
  by_cases c7 : i.op = 7
  · rw [if_pos c7, if_pos c7]
  rw [if_neg c7, if_neg c7]
  by_cases c8 : i.op = 8
  · rw [if_pos c8, if_pos c8]
  rw [if_neg c8, if_neg c8]
theorem fork_yes {c : List V.Term} {t : List Int} : qdc { s with cond := c, turns := t } i = { qdc s i with cond := c, turns := t } := by
  unfold qdc
  dsimp only
  repeat' split
  all_goals rfl
structure Sf (p : V.Prog) (s : V.Path) : Prop where
  st : St p s
  hP : PI p (up s)
  ha : qcb (insAt p s) = true
  h1 : (qb1 p (up s) (insAt p s)).2 = true
  h0 : ¬ ((qb1 p (up s) (insAt p s)).1.op = 0 ∧ (qb1 p (up s) (insAt p s)).1.n = 0)
  h2 : ¬ ((qb1 p (up s) (insAt p s)).1.op = 0 ∧ (qb1 p (up s) (insAt p s)).1.n = 1)
theorem Sf.op (h : Sf p s) : ¬ (qb1 p (up s) (insAt p s)).1.op = 0 :=
  isC_not (ask_ok h.ha h.h1).1 (ask_ok h.ha h.h1).2 h.h0 h.h2
theorem sf_big (h : Sf p s) (hb : (mkP 1 1 0 [(qb1 p (up s) (insAt p s)).1]).2 = false ∨ 60 ≤ s.cond.length ∨ 60 ≤ s.turns.length) : qa7 p s = [{ up s with code := 9 }] := by
  rw [qob h.st.c h.st.n h.st.q (qjo h.ha)]
  by_cases c : (qay p (up s) (insAt p s)).2 = true
  · exact dv_5 h.h1 h.ha h.op c hb
  · exact dv_3 h.h1 ⟨fun q => h.op q.2.1⟩ (by simpa using c)
theorem sf_no (h : Sf p s) {c : List V.Term} {t : List Int} (hn : (noR p { up s with cond := c, turns := t } (insAt p s)).2 = false) : qa7 p s = [{ up s with code := 9 }] := by
  rw [fork_no] at hn
  exact sr_no h.st h.hP h.h1 ⟨fun q => h.op q.2.1⟩ hn
theorem sf_two (h : Sf p s) (hb : (mkP 1 1 0 [(qb1 p (up s) (insAt p s)).1]).2 = true) (hc : ¬ 60 ≤ s.cond.length) (ht : ¬ 60 ≤ s.turns.length) {c : List V.Term} {t : List Int} {t2 : List Int} (e1 : c = s.cond ++ [(mkP 1 1 0 [(qb1 p (up s) (insAt p s)).1]).1]) (e2 : t = s.turns ++ [0]) (e3 : t2 = s.turns ++ [1])
    (hn : (noR p { up s with cond := c, turns := t } (insAt p s)).2 = true) :
    qa7 p s = [qdc { up s with cond := s.cond ++ [(qb1 p (up s) (insAt p s)).1], turns := t2 } (insAt p s), (noR p { up s with cond := c, turns := t } (insAt p s)).1] := by
  subst e1 e2 e3
  rw [fork_no] at hn ⊢
  have hk := qjo (p := p) (s := up s) h.ha
  have e := no_eq h.hP hk
  have hf := e.1.symm.trans hn
  rw [qob h.st.c h.st.n h.st.q hk, dv_6 h.h1 h.ha h.op hf hb hc ht, fork_yes, e.2 hf]
end
end Vg

namespace Vg
open Go Go.Proofs
theorem s_l06No (w mem inn : Int) (code : List V.Ins) (pc : Int) (rg mm : List V.Term) (sk : List Int) (ic : Int) (ot : List V.Term) (cd sp : Int) (cn : List V.Term) (tr : List Int) (op a b c : Int) (bd : Bool) (hb : bd = false) (hP : PI ⟨w, mem, inn, code⟩ ⟨pc, rg, mm, sk, ic, ot, cd, sp, cn, tr⟩) (hi : qfc ⟨op, a, b, c⟩ w code.length = true) (hpc : pc < code.length) (ha : AddrOk ⟨w, mem, inn, code⟩ ⟨pc, rg, mm, sk, ic, ot, cd, sp, cn, tr⟩ ⟨op, a, b, c⟩) (hc : cd = 0) : CallsG Tryz.prog 75 [.ptr 0 0, .agg [.dat (.i w), .dat (.i mem), .dat (.i inn), .dat (.seq .inss code)], .agg [.dat (.i pc), .dat (.seq .terms rg), .dat (.seq .terms mm), .dat (.seq .ints sk), .dat (.i ic), .dat (.seq .terms ot), .dat (.i cd), .dat (.i sp), .dat (.seq .terms cn), .dat (.seq .ints tr)], .agg [.dat (.i op), .dat (.i a), .dat (.i b), .dat (.i c)]] [.box [.dat (.bool bd)]] 1 (fun res B => res = .agg [.dat (.i (noR ⟨w, mem, inn, code⟩ ⟨pc, rg, mm, sk, ic, ot, cd, sp, cn, tr⟩ ⟨op, a, b, c⟩).1.pc), .row 1, .row 2, .row 3, .dat (.i (noR ⟨w, mem, inn, code⟩ ⟨pc, rg, mm, sk, ic, ot, cd, sp, cn, tr⟩ ⟨op, a, b, c⟩).1.inn), .row 4, .dat (.i (noR ⟨w, mem, inn, code⟩ ⟨pc, rg, mm, sk, ic, ot, cd, sp, cn, tr⟩ ⟨op, a, b, c⟩).1.code), .dat (.i (noR ⟨w, mem, inn, code⟩ ⟨pc, rg, mm, sk, ic, ot, cd, sp, cn, tr⟩ ⟨op, a, b, c⟩).1.steps), .row 5, .row 6] ∧ B = [.box [.dat (.bool (!(noR ⟨w, mem, inn, code⟩ ⟨pc, rg, mm, sk, ic, ot, cd, sp, cn, tr⟩ ⟨op, a, b, c⟩).2))], .row 108 .terms (noR ⟨w, mem, inn, code⟩ ⟨pc, rg, mm, sk, ic, ot, cd, sp, cn, tr⟩ ⟨op, a, b, c⟩).1.regs false, .row 108 .terms (noR ⟨w, mem, inn, code⟩ ⟨pc, rg, mm, sk, ic, ot, cd, sp, cn, tr⟩ ⟨op, a, b, c⟩).1.mem false, .row 3 .ints (noR ⟨w, mem, inn, code⟩ ⟨pc, rg, mm, sk, ic, ot, cd, sp, cn, tr⟩ ⟨op, a, b, c⟩).1.stack false, .row 108 .terms (noR ⟨w, mem, inn, code⟩ ⟨pc, rg, mm, sk, ic, ot, cd, sp, cn, tr⟩ ⟨op, a, b, c⟩).1.out false, .row 108 .terms (noR ⟨w, mem, inn, code⟩ ⟨pc, rg, mm, sk, ic, ot, cd, sp, cn, tr⟩ ⟨op, a, b, c⟩).1.cond false, .row 3 .ints (noR ⟨w, mem, inn, code⟩ ⟨pc, rg, mm, sk, ic, ot, cd, sp, cn, tr⟩ ⟨op, a, b, c⟩).1.turns false]) := by
  by_cases h3 : op = 3
  · subst h3
    exact s_l06No3 w mem inn code pc rg mm sk ic ot cd sp cn tr a b c bd mkP rfl hb hP hi hpc ha hc
  · exact s_l06NoR w mem inn code pc rg mm sk ic ot cd sp cn tr op a b c bd mkP rfl hb hP hi hpc ha hc h3
end Vg

namespace Vg
open Go Go.Proofs
set_option maxRecDepth 100000
set_option maxHeartbeats 40000000
theorem and_l {a b : Int} (h : a = 0 ∧ b = 0) : a = 0 := h.1
theorem not_01 {a b : Int} (h : a = 0 ∧ b = 0) : ¬ (a = 0 ∧ b = 1) := fun q => by omega
theorem qkf (pc : Int) (rg mm : List V.Term) (sk : List Int) (ic : Int) (ot : List V.Term) (cd sp : Int) (cn : List V.Term) (tr : List Int) (h : CpOk ⟨pc, rg, mm, sk, ic, ot, cd, sp, cn, tr⟩) : CallsV Tryz.prog 72 [.agg [.dat (.i pc), .dat (.seq .terms rg), .dat (.seq .terms mm), .dat (.seq .ints sk), .dat (.i ic), .dat (.seq .terms ot), .dat (.i cd), .dat (.i sp), .dat (.seq .terms cn), .dat (.seq .ints tr)]] (.agg [.dat (.i pc), .dat (.seq .terms rg), .dat (.seq .terms mm), .dat (.seq .ints sk), .dat (.i ic), .dat (.seq .terms ot), .dat (.i cd), .dat (.i sp), .dat (.seq .terms cn), .dat (.seq .ints tr)]) :=
  (qgg pc rg mm sk ic ot cd sp cn tr h).toV fun res B ⟨h1, h2⟩ => by subst h1 h2; exact ⟨rfl, rfl, rfl, rfl, rfl, rfl, rfl, rfl, rfl, rfl, True.intro⟩
theorem qke (pc : Int) (rg mm : List V.Term) (sk : List Int) (ic : Int) (ot : List V.Term) (cd sp : Int) (cn : List V.Term) (tr : List Int) (xo xw xn : Int) (xm : ByteArray) (xk : List V.Term) (n : Int) (h : CpOk ⟨pc, rg, mm, sk, ic, ot, cd, sp, cn, tr⟩) : CallsV Tryz.prog 78 [.agg [.dat (.i pc), .dat (.seq .terms rg), .dat (.seq .terms mm), .dat (.seq .ints sk), .dat (.i ic), .dat (.seq .terms ot), .dat (.i cd), .dat (.i sp), .dat (.seq .terms cn), .dat (.seq .ints tr)], .agg [.dat (.i xo), .dat (.i xw), .dat (.i xn), .dat (.str xm), .dat (.seq .terms xk)], .dat (.i n)] (.agg [.dat (.i pc), .dat (.seq .terms rg), .dat (.seq .terms mm), .dat (.seq .ints sk), .dat (.i ic), .dat (.seq .terms ot), .dat (.i cd), .dat (.i sp), .dat (.seq .terms (cn ++ [⟨xo, xw, xn, xm, xk⟩])), .dat (.seq .ints (tr ++ [n]))]) :=
  (s_l06Fork pc rg mm sk ic ot cd sp cn tr xo xw xn xm xk n h).toV fun res B ⟨h1, h2⟩ => by subst h1 h2; exact ⟨rfl, rfl, rfl, rfl, rfl, rfl, rfl, rfl, rfl, rfl, True.intro⟩
theorem s_l06Step (w mem inn : Int) (code : List V.Ins) (pc : Int) (rg mm : List V.Term) (sk : List Int) (ic : Int) (ot : List V.Term) (cd sp : Int) (cn : List V.Term) (tr : List Int) (hP : PI ⟨w, mem, inn, code⟩ ⟨pc, rg, mm, sk, ic, ot, cd, sp, cn, tr⟩) : CallsV Tryz.prog 40 [.agg [.dat (.i w), .dat (.i mem), .dat (.i inn), .dat (.seq .inss code)], .agg [.dat (.i pc), .dat (.seq .terms rg), .dat (.seq .terms mm), .dat (.seq .ints sk), .dat (.i ic), .dat (.seq .terms ot), .dat (.i cd), .dat (.i sp), .dat (.seq .terms cn), .dat (.seq .ints tr)]] (.dat (.seq .paths (qa7 ⟨w, mem, inn, code⟩ ⟨pc, rg, mm, sk, ic, ot, cd, sp, cn, tr⟩))) := by
  refine oV Tryz.func40 ⟨?_⟩
  repeat' (first | ((with_reducible refine alt_dr [72] ?_ ?_); exact rfl; (conv => whnf); simp only [List.nil_append, List.cons_append]) | ((with_reducible refine fun (K1 : KT) hK => ?_); refine stW ⟨?_⟩) | ((with_reducible show K1 _ _); subst hK; conv => whnf) | (with_reducible exact rfl) | refine stD ⟨?_⟩ | ((with_reducible show WEach _ _); refine qag rfl ?_ ?_; conv => whnf) | refine st0 ⟨?_⟩ | ((with_reducible refine SplS.mk (fun h => ?_) (fun h => ?_)) <;> first | exact ctM | (subst h; conv => whnf) | (conv => whnf)) | refine stB ⟨?_⟩ ⟨?_⟩ | ((with_reducible first | refine pcI (g := 72) ?_ | show Exists _); refine ⟨_, qkf (h := ?_) .., rfl, ?_⟩; rotate_right; conv => whnf) | ((with_reducible refine gcI (g := 73) ?_); refine ⟨_, _, s_l06Ask (hP := ?_) (hi := ?_) .., fun res B hRB => ?_⟩; rotate_right; obtain (⟨hq, rfl, rfl⟩ | ⟨hq, rfl, rfl⟩) := hRB <;> conv => whnf) | ((with_reducible first | refine pcI (g := 74) ?_ | show Exists _); refine ⟨_, qar .., rfl, ?_⟩; rotate_right; conv => whnf) | ((with_reducible refine gcI (g := 75) ?_); refine ⟨_, _, s_l06No (hb := ?_) (hP := ?_) (hi := ?_) (hpc := ?_) (ha := ?_) (hc := ?_) .., fun res B hRB => ?_⟩; rotate_right; obtain ⟨rfl, rfl⟩ := hRB; conv => whnf) | ((with_reducible first | refine pcI (g := 76) ?_ | show Exists _); refine ⟨_, s_l06Yes .., rfl, ?_⟩; rotate_right; conv => whnf) | ((with_reducible refine gcI (g := 77) ?_); refine ⟨_, _, qew (hb := ?_) (hn := ?_) .., fun res B hRB => ?_⟩; rotate_right; obtain ⟨rfl, rfl⟩ := hRB; conv => whnf) | ((with_reducible first | refine pcI (g := 78) ?_ | show Exists _); refine ⟨_, qke (h := ?_) .., rfl, ?_⟩; rotate_right; conv => whnf) | ((with_reducible refine zcI (g := 72) ?_); (conv => whnf); refine ⟨_, _, qkf (h := ?_) .., rfl, fun res B hRB => ?_⟩; rotate_right; obtain ⟨rfl, rfl⟩ := hRB; conv => whnf) | ((with_reducible refine zcI (g := 74) ?_); (conv => whnf); refine ⟨_, _, qar .., rfl, fun res B hRB => ?_⟩; rotate_right; obtain ⟨rfl, rfl⟩ := hRB; conv => whnf) | ((with_reducible refine zcI (g := 76) ?_); (conv => whnf); refine ⟨_, _, s_l06Yes .., rfl, fun res B hRB => ?_⟩; rotate_right; obtain ⟨rfl, rfl⟩ := hRB; conv => whnf) | ((with_reducible refine zcI (g := 78) ?_); (conv => whnf); refine ⟨_, _, qke (h := ?_) .., rfl, fun res B hRB => ?_⟩; rotate_right; obtain ⟨rfl, rfl⟩ := hRB; conv => whnf) | (intro h; conv => whnf))
  all_goals repeat clear hK K1
  all_goals (have cl : cn.length ≤ 60 := hP.cl; have tl : tr.length ≤ 60 := hP.tl; (try (have st0 : 0 ≤ sp := hP.st0; have st1 : sp ≤ 400 := hP.st1; have hw : IntKind.i64.wrap (sp + 1) = sp + 1 := qac omG omG; simp only [hw] at *)); (try simp only [V.Term.eta, Bool.not_eq_false'] at *); (try (have pc0 : 0 ≤ pc := hP.pc0; have pc1 : pc ≤ code.length := hP.pc1)))
  all_goals first | exact True.intro | (exact Bool.noConfusion (show true = false by with_reducible assumption)) | (exact Bool.noConfusion (show false = true by with_reducible assumption)) | exact hP.cp | exact congrArg List.length (stp_1 asmR) | exact congrArg List.length (stp_2 (show (400 : Int) ≤ 400 by decide)) | ((with_reducible show Dat.seq _ _ = _); refine congrArg (Dat.seq K.paths) ?_; exact stp_3 rfl (by show ¬ 400 ≤ sp; omega) rfl) | (have hs : St ⟨w, mem, inn, code⟩ ⟨pc, rg, mm, sk, ic, ot, 0, sp, cn, tr⟩ := ⟨rfl, by show ¬ 400 ≤ sp; omega, by show ¬ pc = code.length; omega⟩; have hU := hP.steps (show sp < 400 by omega); first | exact hU.cp | exact hU | exact qlj hP.hp hP.pc0 (by show pc < code.length; omega) | (with_reducible assumption) | ((with_reducible show (_ : Int) < _); omega) | ((with_reducible show okTs _ = true); exact qiz (ask_ok (by assumption) (by assumption)).1) | ((with_reducible show PI _ _); exact hU.cond (qdo (by assumption)).1 hP.co (by show ¬ 60 ≤ cn.length; omega) (by show ¬ 60 ≤ tr.length; omega)) | ((with_reducible show AddrOk _ _ _); first | exact ask_a1 (ask_t (by assumption)) (by assumption) | exact ask_a2 (by assumption) (not_01 (by assumption)) | (have q := ask_a2 (p := ⟨w, mem, inn, code⟩) (s := ⟨pc, rg, mm, sk, ic, ot, 0, sp + 1, cn, tr⟩) (by assumption) (by assumption); exact ⟨q.l, q.s⟩)) | ((with_reducible show CpOk _); first | (refine (hP.step _ ?_).cp; rw [sr_go hs hU (ask_t (by assumption)) (ny_1 (by assumption)) (.inl (by assumption)) (by assumption)]; exact List.mem_singleton_self _) | (refine (hP.step _ ?_).cp; rw [sr_go hs hU (by assumption) (ny_0 (by assumption)) (.inr (and_l (by assumption))) (by assumption)]; exact List.mem_singleton_self _) | (have hf : Sf ⟨w, mem, inn, code⟩ ⟨pc, rg, mm, sk, ic, ot, 0, sp, cn, tr⟩ := ⟨hs, hU, by assumption, by assumption, by assumption, by assumption⟩; refine (hP.step _ ?_).cp; rw [sf_two hf (by assumption) (by show ¬ 60 ≤ cn.length; omega) (by show ¬ 60 ≤ tr.length; omega) rfl rfl rfl (by assumption)]; exact List.mem_cons_of_mem _ (List.mem_singleton_self _))) | ((with_reducible show Dat.seq _ _ = _); refine congrArg (Dat.seq K.paths) ?_; first | exact st_big' hs (by assumption) | exact sr_no hs hU (ask_t (by assumption)) (ny_1 (by assumption)) (by assumption) | exact sr_no hs hU (by assumption) (ny_0 (by assumption)) (by assumption) | exact sr_go hs hU (ask_t (by assumption)) (ny_1 (by assumption)) (.inl (by assumption)) (by assumption) | exact sr_go hs hU (by assumption) (ny_0 (by assumption)) (.inr (and_l (by assumption))) (by assumption) | exact sr_yes hs (by assumption) (by assumption) (by assumption) | (have hf : Sf ⟨w, mem, inn, code⟩ ⟨pc, rg, mm, sk, ic, ot, 0, sp, cn, tr⟩ := ⟨hs, hU, by assumption, by assumption, by assumption, by assumption⟩; first | exact sf_big hf (.inl (by assumption)) | exact sf_big hf (.inr (.inl (by show 60 ≤ cn.length; omega))) | exact sf_big hf (.inr (.inr (by show 60 ≤ tr.length; omega))) | exact sf_no hf (by assumption) | exact sf_two hf (by assumption) (by show ¬ 60 ≤ cn.length; omega) (by show ¬ 60 ≤ tr.length; omega) rfl rfl rfl (by assumption)))) | skip
end Vg

namespace Vg
open Go Go.Proofs
set_option maxRecDepth 100000
set_option maxHeartbeats 40000000
theorem qof (w mem inn : Int) (code : List V.Ins) (hp : qbz ⟨w, mem, inn, code⟩ = true) : CallsV Tryz.prog 39 [.agg [.dat (.i w), .dat (.i mem), .dat (.i inn), .dat (.seq .inss code)]] (datPt (startP ⟨w, mem, inn, code⟩)) := by
  refine oV Tryz.func39 ⟨?_⟩
  repeat' (first | ((with_reducible refine fun (K1 : KT) hK => ?_); refine stW ⟨?_⟩) | ((with_reducible show K1 _ _); subst hK; conv => whnf) | (with_reducible refine frG ?_) | (with_reducible exact rfl) | refine st0 ⟨?_⟩ | ((with_reducible refine SplS.mk (fun h => ?_) (fun h => ?_)) <;> first | exact ctM | ((fail_if_success (have _x : @Eq Bool _ _ := h)); subst h; conv => whnf) | (conv => whnf)) | refine stB ⟨?_⟩ ⟨?_⟩ | (refine Exists.intro ({k : Nat // (k : Int) ≤ mem}) (Exists.intro (fun ⟨k, hk⟩ => mkS Tryz.f39.ntmps [(1, .ptr 1 0), (2, .ptr 2 0), (3, .ptr 3 0), (5, .dat (.i k))] [(1, .box [.dat (.i w), .dat (.i mem), .dat (.i inn), .dat (.seq .inss code)]), (2, .box [.dat (.i 0), .nils, .nils, .nils, .dat (.i 0), .nils, .dat (.i 0), .dat (.i 0), .nils, .nils]), (3, .box [.dat (.i 0), .row 21, .row 35, .nils, .dat (.i 0), .nils, .dat (.i 0), .dat (.i 0), .nils, .nils]), (21, .row 108 .terms (List.replicate 4 (cT w 0)) false), (35, .row 108 .terms (List.replicate k (cT w 0)) false)]) (Exists.intro (fun ⟨k, hk⟩ => mem.toNat - k) (Exists.intro ⟨0, ?_⟩ (And.intro (SubP.sub (σ := [(1, some 1), (2, some 2), (3, some 3), (21, some 21), (35, none)]) ⟨⟨rfl, rfl, rfl⟩, ⟨⟨rfl, rfl⟩, ⟨rfl, rfl⟩, ⟨rfl, rfl⟩, (qab ?_), trivial⟩, ⟨⟨(qaa ?_), (qaa ?_), (qaa ?_), (qaa ?_), trivial⟩, ⟨(qaa ?_), trivial, trivial, trivial, (qaa ?_), trivial, (qaa ?_), (qaa ?_), trivial, trivial, trivial⟩, ⟨(qaa ?_), rfl, rfl, trivial, (qaa ?_), trivial, (qaa ?_), (qaa ?_), trivial, trivial, trivial⟩, ⟨⟨rfl, rfl⟩, ?_⟩, ?_, trivial⟩⟩) (fun ⟨k, hk⟩ => ?_))))); rotate_right; conv => whnf) | (refine Exists.intro (⟨k + 1, ?_⟩ : {k : Nat // (k : Int) ≤ mem}) (And.intro ?_ (SubP.sub (σ := [(1, some 1), (2, some 2), (3, some 3), (21, some 21), (35, some 35)]) ⟨⟨rfl, rfl, rfl⟩, ⟨⟨rfl, rfl⟩, ⟨rfl, rfl⟩, ⟨rfl, rfl⟩, (qab ?_), trivial⟩, ⟨⟨(qaa ?_), (qaa ?_), (qaa ?_), (qaa ?_), trivial⟩, ⟨(qaa ?_), trivial, trivial, trivial, (qaa ?_), trivial, (qaa ?_), (qaa ?_), trivial, trivial, trivial⟩, ⟨(qaa ?_), rfl, rfl, trivial, (qaa ?_), trivial, (qaa ?_), (qaa ?_), trivial, trivial, trivial⟩, ⟨⟨rfl, rfl⟩, ?_⟩, ⟨⟨rfl, rfl⟩, ?_⟩, trivial⟩⟩))) | (refine Exists.intro ({k : Nat // k ≤ 4}) (Exists.intro (fun ⟨k, hk⟩ => mkS Tryz.f39.ntmps [(1, .ptr 1 0), (2, .ptr 2 0), (3, .ptr 3 0), (4, .dat (.i k))] [(1, .box [.dat (.i w), .dat (.i mem), .dat (.i inn), .dat (.seq .inss code)]), (2, .box [.dat (.i 0), .nils, .nils, .nils, .dat (.i 0), .nils, .dat (.i 0), .dat (.i 0), .nils, .nils]), (3, .box [.dat (.i 0), .row 21, .nils, .nils, .dat (.i 0), .nils, .dat (.i 0), .dat (.i 0), .nils, .nils]), (21, .row 108 .terms (List.replicate k (cT w 0)) false)]) (Exists.intro (fun ⟨k, hk⟩ => 4 - k) (Exists.intro ⟨0, Nat.zero_le _⟩ (And.intro (SubP.sub (σ := [(1, some 1), (2, some 2), (3, some 3), (21, none)]) ⟨⟨rfl, rfl, rfl⟩, ⟨⟨rfl, rfl⟩, ⟨rfl, rfl⟩, ⟨rfl, rfl⟩, (qab ?_), trivial⟩, ⟨⟨(qaa ?_), (qaa ?_), (qaa ?_), (qaa ?_), trivial⟩, ⟨(qaa ?_), trivial, trivial, trivial, (qaa ?_), trivial, (qaa ?_), (qaa ?_), trivial, trivial, trivial⟩, ⟨(qaa ?_), rfl, trivial, trivial, (qaa ?_), trivial, (qaa ?_), (qaa ?_), trivial, trivial, trivial⟩, ?_, trivial⟩⟩) (fun ⟨k, hk⟩ => ?_))))); rotate_right; conv => whnf) | (refine Exists.intro (⟨k + 1, ?_⟩ : {k : Nat // k ≤ 4}) (And.intro ?_ (SubP.sub (σ := [(1, some 1), (2, some 2), (3, some 3), (21, some 21)]) ⟨⟨rfl, rfl, rfl⟩, ⟨⟨rfl, rfl⟩, ⟨rfl, rfl⟩, ⟨rfl, rfl⟩, (qab ?_), trivial⟩, ⟨⟨(qaa ?_), (qaa ?_), (qaa ?_), (qaa ?_), trivial⟩, ⟨(qaa ?_), trivial, trivial, trivial, (qaa ?_), trivial, (qaa ?_), (qaa ?_), trivial, trivial, trivial⟩, ⟨(qaa ?_), rfl, trivial, trivial, (qaa ?_), trivial, (qaa ?_), (qaa ?_), trivial, trivial, trivial⟩, ⟨⟨rfl, rfl⟩, ?_⟩, trivial⟩⟩))) | ((with_reducible first | refine pcI (g := 69) ?_ | show Exists _); refine ⟨_, qfp .., rfl, ?_⟩; rotate_right; conv => whnf) | ((with_reducible first | refine pcI (g := 71) ?_ | show Exists _); refine ⟨_, s_l02Const .., rfl, ?_⟩; rotate_right; conv => whnf) | (intro h; conv => whnf))
  all_goals repeat clear hK K1
  all_goals (have hM := qa8 hp; dsimp only at hM)
  all_goals first | exact True.intro | ((with_reducible show (_ : Int) < _); omega) | ((with_reducible show (_ : Int) ≤ _); omega) | ((with_reducible show (_ : Nat) < _); ((try dsimp only); omega)) | (refine congrArg (Dat.int .i64) ?_; rw [qac omG omG]; rfl) | exact congrArg (Sigma.mk K.terms) List.replicate_succ' | exact congrArg (Sigma.mk K.terms) List.replicate_succ'.symm | exact congrArg Dat.i (List.length_replicate ..) | ((with_reducible show (_ : Nat) ≤ _); (first | omega | (show ((List.replicate k (cT w 0)).length + 1) * 64 ≤ _; rw [List.length_replicate]; omega) | (show (List.replicate k (cT w 0)).length + 1 ≤ 2 ^ 63 - 1; rw [List.length_replicate]; omega))) | (have e4 : mem.toNat = k := omG; exact ⟨⟨rfl, rfl, congrArg (Dat.seq K.terms) (show List.replicate mem.toNat (cT w 0) = List.replicate k (cT w 0) by rw [e4]), rfl, rfl, rfl, rfl, rfl, rfl, rfl, True.intro⟩⟩) | (have e4 : k = 4 := omG; subst e4; exact rfl) | (have e4 : mem.toNat = k := omG; show Dat.seq K.terms (List.replicate mem.toNat (cT w 0)) = Dat.seq K.terms (List.replicate k (cT w 0)); rw [e4]) | exact rfl | skip
noncomputable def pwR (p : V.Prog) (tr : List Int) (fuel : Int) : V.Path × Bool :=
  if qbx tr = true ∧ (pwF p tr fuel.toNat (startP p) 0).2 = tr.length then ((pwF p tr fuel.toNat (startP p) 0).1, true) else (⟨0, [], [], [], 0, [], 0, 0, [], []⟩, false)
section
variable {p : V.Prog} {tr : List Int} {fuel : Int} {k u : Nat} {s : V.Path}
theorem pr_y (ht : qbx tr = true) (e : pwF p tr fuel.toNat (startP p) 0 = (s, u)) (hl : u ≤ tr.length) (hu : ¬ ((tr.drop u).length : Int) > 0) : pwR p tr fuel = (s, true) := by
  rw [List.length_drop] at hu
  unfold pwR
  rw [e, if_pos ⟨ht, by show u = tr.length; omega⟩]
theorem pr_n (e : pwF p tr fuel.toNat (startP p) 0 = (s, u)) (hu : ((tr.drop u).length : Int) > 0) : pwR p tr fuel = (⟨0, [], [], [], 0, [], 0, 0, [], []⟩, false) := by
  rw [List.length_drop] at hu
  unfold pwR
  rw [e, if_neg (fun q => by have q2 : u = tr.length := q.2; omega)]
theorem pr_bad (ht : qbx tr = false) : pwR p tr fuel = (⟨0, [], [], [], 0, [], 0, 0, [], []⟩, false) := by
  unfold pwR
  rw [if_neg (fun q => by rw [ht] at q; cases q.1)]
theorem dr_0 (hl : u ≤ tr.length) (h : ((tr.drop u).length : Int) = 0) : (u : Int) = tr.length := by rw [List.length_drop] at h; omega
theorem dr_1 (h : ¬ ((tr.drop u).length : Int) = 0) : ¬ (u : Int) = tr.length := fun e => h (by rw [List.length_drop]; omega)
theorem dr_get : (tr.drop u).getD (Int.toNat 0) K.ints.dflt = tr.getD (u : Int).toNat K.ints.dflt := by
  rw [Int.toNat_natCast, List.getD_eq_getElem?_getD, List.getD_eq_getElem?_getD, List.getElem?_drop]; rfl
theorem pw_1' (h : PwI p tr fuel (k, s, u)) (hk : (k : Int) < fuel) (h0 : ¬ ((qa7 p s).length : Int) = 0) (h2 : ¬ ((qa7 p s).length : Int) = 2) : PwI p tr fuel (k + 1, (qa7 p s).getD (Int.toNat 0) K.paths.dflt, u) :=
  pw_1 h hk (by have := qe5 p s; omega)
theorem pw_2' (h : PwI p tr fuel (k, s, u)) (ht : qbx tr = true) (hk : (k : Int) < fuel) (h2 : ((qa7 p s).length : Int) = 2) (hu : ¬ ((tr.drop u).length : Int) = 0) :
    PwI p tr fuel (k + 1, (qa7 p s).getD (IntKind.i64.wrap (1 - (tr.drop u).getD (Int.toNat 0) K.ints.dflt)).toNat K.paths.dflt, u + 1) := by
  rw [dr_get]
  have q := pw_in h ht omG omG (dr_1 hu)
  rw [qac omG omG]
  exact pw_2 h ht hk omG omG (dr_1 hu)
theorem fr10Z {B : List Blk} {L : List Nat} {y : V.Path} (h : y = ⟨0, [], [], [], 0, [], 0, 0, [], []⟩) :
    frzM B (datPt y) (AV.numM L (.agg [.dat (.int .i64 0), .nils, .nils, .nils, .dat (.int .i64 0), .nils, .dat (.int .i64 0), .dat (.int .i64 0), .nils, .nils])) := by
  subst h
  exact ⟨rfl, rfl, rfl, rfl, rfl, rfl, rfl, rfl, rfl, rfl, True.intro⟩
end
theorem drop_one {l : List Int} {u : Nat} : l.drop (u + 1) = (l.drop u).drop (Int.toNat 1) := by rw [List.drop_drop]; rfl
structure PwS (p : V.Prog) (tr : List Int) (fuel : Int) (q : Nat × V.Path × Nat) : Prop where
  ht : qbx tr = true
  hq : PwI p tr fuel q
theorem qkh (w mem inn : Int) (code : List V.Ins) (tr : List Int) (fuel : Int) (hp : qbz ⟨w, mem, inn, code⟩ = true) (hf : 0 ≤ fuel) (hf2 : fuel ≤ 400) : CallsV Tryz.prog 122 [.agg [.dat (.i w), .dat (.i mem), .dat (.i inn), .dat (.seq .inss code)], .dat (.seq .ints tr), .dat (.i fuel)] (.tup [datPt (pwR ⟨w, mem, inn, code⟩ tr fuel).1, .dat (.bool (pwR ⟨w, mem, inn, code⟩ tr fuel).2)]) := by
  refine oV Tryz.func122 ⟨?_⟩
  repeat' (first | ((with_reducible refine fun (K1 : KT) hK => ?_); refine stW ⟨?_⟩) | ((with_reducible show K1 _ _); subst hK; conv => whnf) | (with_reducible exact rfl) | refine st0 ⟨?_⟩ | ((with_reducible refine SplS.mk (fun h => ?_) (fun h => ?_)) <;> first | exact ctM | (subst h; conv => whnf) | (conv => whnf)) | refine stB ⟨?_⟩ ⟨?_⟩ | (refine Exists.intro ({q : Nat × V.Path × Nat // PwS ⟨w, mem, inn, code⟩ tr fuel q}) (Exists.intro (fun ⟨(k, s, u), hs⟩ => mkS Tryz.f122.ntmps [(1, .dat (.seq .ints (tr.drop u))), (2, .dat (.i fuel)), (3, .ptr 3 0), (6, .ptr 6 0), (10, .ptr 10 0), (11, .dat (.i k))] [(3, .box [.dat (.i w), .dat (.i mem), .dat (.i inn), .dat (.seq .inss code)]), (6, .box [.dat (.i 0), .nils, .nils, .nils, .dat (.i 0), .nils, .dat (.i 0), .dat (.i 0), .nils, .nils]), (10, .box [.dat (.i s.pc), .dat (.seq .terms s.regs), .dat (.seq .terms s.mem), .dat (.seq .ints s.stack), .dat (.i s.inn), .dat (.seq .terms s.out), .dat (.i s.code), .dat (.i s.steps), .dat (.seq .terms s.cond), .dat (.seq .ints s.turns)])]) (Exists.intro (fun ⟨(k, s, u), hs⟩ => fuel.toNat - k) (Exists.intro ⟨(0, startP ⟨w, mem, inn, code⟩, 0), ?_⟩ (And.intro (SubP.sub (σ := [(3, some 3), (6, some 6), (10, some 10)]) ⟨⟨rfl, rfl, rfl⟩, ⟨(qab ?_), (qab ?_), ⟨rfl, rfl⟩, ⟨rfl, rfl⟩, ⟨rfl, rfl⟩, (qab ?_), trivial⟩, ⟨⟨(qaa ?_), (qaa ?_), (qaa ?_), (qaa ?_), trivial⟩, ⟨(qaa ?_), trivial, trivial, trivial, (qaa ?_), trivial, (qaa ?_), (qaa ?_), trivial, trivial, trivial⟩, ⟨(qaa ?_), (qaa ?_), (qaa ?_), (qaa ?_), (qaa ?_), (qaa ?_), (qaa ?_), (qaa ?_), (qaa ?_), (qaa ?_), trivial⟩, trivial⟩⟩) (fun ⟨(k, s, u), hs⟩ => ?_))))); rotate_right; conv => whnf) | (refine Exists.intro (⟨(k + 1, ?_, ?_), ?_⟩ : {q : Nat × V.Path × Nat // PwS ⟨w, mem, inn, code⟩ tr fuel q}) (And.intro ?_ (SubP.sub (σ := [(3, some 3), (6, some 6), (10, some 10)]) ⟨⟨rfl, rfl, rfl⟩, ⟨(qab ?_), (qab ?_), ⟨rfl, rfl⟩, ⟨rfl, rfl⟩, ⟨rfl, rfl⟩, (qab ?_), trivial⟩, ⟨⟨(qaa ?_), (qaa ?_), (qaa ?_), (qaa ?_), trivial⟩, ⟨(qaa ?_), trivial, trivial, trivial, (qaa ?_), trivial, (qaa ?_), (qaa ?_), trivial, trivial, trivial⟩, ⟨(qaa ?_), (qaa ?_), (qaa ?_), (qaa ?_), (qaa ?_), (qaa ?_), (qaa ?_), (qaa ?_), (qaa ?_), (qaa ?_), trivial⟩, trivial⟩⟩))) | (refine Exists.intro ({k : Nat // (tr.take k).all (fun n => decide (n = 0 ∨ n = 1)) = true}) (Exists.intro (fun ⟨k, hall⟩ => mkS Tryz.f122.ntmps [(1, .dat (.seq .ints tr)), (2, .dat (.i fuel)), (3, .ptr 3 0), (6, .ptr 6 0), (13, .dat (.seq .ints tr)), (14, .dat (.i tr.length)), (15, .dat (.i k))] [(3, .box [.dat (.i w), .dat (.i mem), .dat (.i inn), .dat (.seq .inss code)]), (6, .box [.dat (.i 0), .nils, .nils, .nils, .dat (.i 0), .nils, .dat (.i 0), .dat (.i 0), .nils, .nils])]) (Exists.intro (fun ⟨k, hall⟩ => tr.length - k) (Exists.intro ⟨0, rfl⟩ (And.intro (SubP.sub (σ := [(3, some 3), (6, some 6)]) ⟨⟨rfl, rfl, rfl⟩, ⟨(qab ?_), (qab ?_), ⟨rfl, rfl⟩, ⟨rfl, rfl⟩, (qab ?_), (qab ?_), (qab ?_), trivial⟩, ⟨⟨(qaa ?_), (qaa ?_), (qaa ?_), (qaa ?_), trivial⟩, ⟨(qaa ?_), trivial, trivial, trivial, (qaa ?_), trivial, (qaa ?_), (qaa ?_), trivial, trivial, trivial⟩, trivial⟩⟩) (fun ⟨k, hall⟩ => ?_))))); rotate_right; conv => whnf) | (refine Exists.intro (⟨k + 1, ?_⟩ : {k : Nat // (tr.take k).all (fun n => decide (n = 0 ∨ n = 1)) = true}) (And.intro ?_ (SubP.sub (σ := [(3, some 3), (6, some 6)]) ⟨⟨rfl, rfl, rfl⟩, ⟨(qab ?_), (qab ?_), ⟨rfl, rfl⟩, ⟨rfl, rfl⟩, (qab ?_), (qab ?_), (qab ?_), trivial⟩, ⟨⟨(qaa ?_), (qaa ?_), (qaa ?_), (qaa ?_), trivial⟩, ⟨(qaa ?_), trivial, trivial, trivial, (qaa ?_), trivial, (qaa ?_), (qaa ?_), trivial, trivial, trivial⟩, trivial⟩⟩))) | ((with_reducible first | refine pcI (g := 38) ?_ | show Exists _); refine ⟨_, s_l01In .., rfl, ?_⟩; rotate_right; conv => whnf) | ((with_reducible first | refine pcI (g := 69) ?_ | show Exists _); refine ⟨_, qfp .., rfl, ?_⟩; rotate_right; conv => whnf) | ((with_reducible first | refine pcI (g := 39) ?_ | show Exists _); refine ⟨_, qof (hp := ?_) .., rfl, ?_⟩; rotate_right; conv => whnf) | ((with_reducible first | refine pcI (g := 40) ?_ | show Exists _); refine ⟨_, s_l06Step (hP := ?_) .., rfl, ?_⟩; rotate_right; conv => whnf) | (intro h; conv => whnf))
  all_goals repeat clear hK K1
  all_goals (try simp only [path_eta] at *)
  all_goals first | ((with_reducible show Nat); skip) | exact True.intro | (exact Bool.noConfusion (Eq.trans (Eq.symm (inP_iff.2 omG)) (show inP fuel 0 400 = false by with_reducible assumption))) | (exact Bool.noConfusion (Eq.trans (Eq.symm hp) (show qbz _ = false by with_reducible assumption))) | exact congrArg (Dat.seq K.ints) drop_one | (with_reducible exact hp) | ((with_reducible show PI _ _); exact hs.hq.hs) | exact ⟨qdh (by assumption) hall, pw_0 hp hf⟩ | ((with_reducible show PwS _ _ _ _); refine ⟨hs.ht, ?_⟩; first | exact pw_1' hs.hq (by assumption) (by assumption) (by assumption) | exact pw_2' hs.hq hs.ht (by assumption) (by assumption) (by assumption)) | ((with_reducible show List.all _ _ = true); simp only [Int.toNat_natCast] at *; have q2 := inP_iff.1 (show inP (tr.getD k K.ints.dflt) 0 1 = true by assumption); rw [qc2 K.ints.dflt (by assumption), hall]; exact decide_eq_true omG) | (exfalso; have := qe5 ⟨w, mem, inn, code⟩ s; omega) | ((with_reducible show _ < _); ((try dsimp only); omega)) | (have h1 := hs.hq.uk; have h2 := hs.hq.kf; dsimp only at h1 h2; refine congrArg (Dat.int .i64) ?_; rw [qac omG omG]; rfl) | (have q := pw_in hs.hq hs.ht omG omG (dr_1 (by assumption)); have q3 := q.1; have q4 := q.2.1; have q5 := q.2.2; rw [← dr_get] at q4; first | ((with_reducible show (_ : Int) < _); first | (rw [List.length_drop]; omega) | omega | (rw [qac omG omG]; omega)) | ((with_reducible show (_ : Int) ≤ _); first | (rw [List.length_drop]; omega) | omega | (rw [qac omG omG]; omega))) | ((with_reducible show (_ : Int) < _); first | omega | (rw [List.length_drop]; omega)) | ((with_reducible show (_ : Int) ≤ _); first | omega | (rw [List.length_drop]; omega)) | exact rfl | exact congrArg (Dat.int .i64) (qan asmR asmR).symm | exact congrArg (Dat.seq K.ints) (List.drop_drop ..) | exact congrArg (Dat.seq K.ints) (List.drop_drop ..).symm | (have hb : qbx tr = false := qg2 (d := K.ints.dflt) asmR (decide_eq_false (fun e => Bool.noConfusion (Eq.trans (Eq.symm (inP_iff.2 omG)) (show inP (tr.getD k K.ints.dflt) 0 1 = false by assumption)))); rw [pr_bad hb]; first | exact fr10Z rfl | exact frB rfl) | (have e : pwF ⟨w, mem, inn, code⟩ tr fuel.toNat (startP ⟨w, mem, inn, code⟩) 0 = (s, u) := (by first | exact pw_end hs.hq (by assumption) | exact pw_b1 hs.hq (by assumption) (by assumption) | exact pw_b2 hs.hq (by assumption) (by assumption) (dr_0 hs.hq.ul (by assumption))); first | exact fr10M (congrArg Prod.fst (pr_y hs.ht e hs.hq.ul (by assumption))) | exact frB (congrArg Prod.snd (pr_y hs.ht e hs.hq.ul (by assumption))) | exact fr10Z (congrArg Prod.fst (pr_n e (by assumption))) | exact frB (congrArg Prod.snd (pr_n e (by assumption)))) | skip
end Vg
