/- Paths: what the reference does if the answer is no, put together. Condition: the path is one under way (PI). -/
import Derived.Test.YtfhkodimclmcdaaGreatDoorPathU3
import Derived.Test.YtfhkodimclmcdaaGreatDoorPathU4
import Derived.Test.YtfhkodimclmcdaaGreatDoorPathT
import Derived.Test.YtfhkodimclmcdaaGreatDoorPathL
import Derived.Test.YtfhkodimclmcdaaGreatDoorPathW
namespace Vg
open Go Go.Proofs
theorem s_l06No (w mem inn : Int) (code : List V.Ins) (pc : Int) (rg mm : List V.Term) (sk : List Int) (ic : Int) (ot : List V.Term) (cd sp : Int) (cn : List V.Term) (tr : List Int) (op a b c : Int) (bd : Bool) (hb : bd = false) (hP : PI ⟨w,mem,inn,code⟩ ⟨pc,rg,mm,sk,ic,ot,cd,sp,cn,tr⟩) (hi : j5 ⟨op,a,b,c⟩ w code.length = true) (hpc : pc < code.length) (ha : AddrOk ⟨w,mem,inn,code⟩ ⟨pc,rg,mm,sk,ic,ot,cd,sp,cn,tr⟩ ⟨op,a,b,c⟩) (hc : cd = 0) : CallsG Tryz.prog 65 [.ptr 0 0,.agg [.dat (.i w),.dat (.i mem),.dat (.i inn),.dat (.seq .inss code)],.agg [.dat (.i pc),.dat (.seq .terms rg),.dat (.seq .terms mm),.dat (.seq .ints sk),.dat (.i ic),.dat (.seq .terms ot),.dat (.i cd),.dat (.i sp),.dat (.seq .terms cn),.dat (.seq .ints tr)],.agg [.dat (.i op),.dat (.i a),.dat (.i b),.dat (.i c)]] [.box [.dat (.bool bd)]] 1 (fun res B=>res = .agg [.dat (.i (p5 ⟨w,mem,inn,code⟩ ⟨pc,rg,mm,sk,ic,ot,cd,sp,cn,tr⟩ ⟨op,a,b,c⟩).1.pc),.row 1,.row 2,.row 3,.dat (.i (p5 ⟨w,mem,inn,code⟩ ⟨pc,rg,mm,sk,ic,ot,cd,sp,cn,tr⟩ ⟨op,a,b,c⟩).1.inn),.row 4,.dat (.i (p5 ⟨w,mem,inn,code⟩ ⟨pc,rg,mm,sk,ic,ot,cd,sp,cn,tr⟩ ⟨op,a,b,c⟩).1.code),.dat (.i (p5 ⟨w,mem,inn,code⟩ ⟨pc,rg,mm,sk,ic,ot,cd,sp,cn,tr⟩ ⟨op,a,b,c⟩).1.steps),.row 5,.row 6] /\ B = [.box [.dat (.bool (!(p5 ⟨w,mem,inn,code⟩ ⟨pc,rg,mm,sk,ic,ot,cd,sp,cn,tr⟩ ⟨op,a,b,c⟩).2))],.row 90 .terms (p5 ⟨w,mem,inn,code⟩ ⟨pc,rg,mm,sk,ic,ot,cd,sp,cn,tr⟩ ⟨op,a,b,c⟩).1.regs false,.row 90 .terms (p5 ⟨w,mem,inn,code⟩ ⟨pc,rg,mm,sk,ic,ot,cd,sp,cn,tr⟩ ⟨op,a,b,c⟩).1.mem false,.row 3 .ints (p5 ⟨w,mem,inn,code⟩ ⟨pc,rg,mm,sk,ic,ot,cd,sp,cn,tr⟩ ⟨op,a,b,c⟩).1.stack false,.row 90 .terms (p5 ⟨w,mem,inn,code⟩ ⟨pc,rg,mm,sk,ic,ot,cd,sp,cn,tr⟩ ⟨op,a,b,c⟩).1.out false,.row 90 .terms (p5 ⟨w,mem,inn,code⟩ ⟨pc,rg,mm,sk,ic,ot,cd,sp,cn,tr⟩ ⟨op,a,b,c⟩).1.cond false,.row 3 .ints (p5 ⟨w,mem,inn,code⟩ ⟨pc,rg,mm,sk,ic,ot,cd,sp,cn,tr⟩ ⟨op,a,b,c⟩).1.turns false]) := by
  by_cases h3 : op = 3
  . subst h3
    exact qiw w mem inn code pc rg mm sk ic ot cd sp cn tr a b c bd s1 rfl hb hP hi hpc ha hc
  . exact qiv w mem inn code pc rg mm sk ic ot cd sp cn tr op a b c bd s1 rfl hb hP hi hpc ha hc h3
section
variable {p : V.Prog} {s : V.Path} {i : V.Ins} {mm : List V.Term} {x t : V.Term}
theorem lr_eq (h1 : 1 <= p.mem) : ∀ j : Nat,(m7 p mm x j).2 = (r6 p mm x j).2 /\ ((r6 p mm x j).2 = true -> (m7 p mm x j).1 = (r6 p mm x j).1)
  | 0=>⟨rfl,fun _=>rfl⟩
  | j + 1=>by
    obtain ⟨i1,i2⟩ := lr_eq h1 j
    have e : (p.mem - 2 - (j : Int)).toNat = p.mem.toNat - 2 - j := by omega
    rw [m7,r6,i1]
    by_cases c : (r6 p mm x j).2 = true
    . rw [if_pos c,if_pos c,i2 c,e]
      unfold p7 cD
      by_cases d : (s1 14 1 0 [cT p.w (p.mem - 2 - j),x]).2 = true
      . rw [if_pos d,if_pos d];exact ⟨rfl,fun _=>rfl⟩
      . rw [if_neg d,if_neg d];exact ⟨rfl,fun q=>by cases q⟩
    . rw [if_neg c,if_neg c]
      exact ⟨i1.trans (by simpa using c),fun q=>by cases q⟩
theorem sl_step {k : Nat} (h : k < mm.length) : (cB p mm x t k ++ mm.drop k).set (k : Int).toNat (p7 p (k : Int) x t (kAt mm k)).1 = cB p mm x t (k + 1) ++ mm.drop (k + 1) := by
  rw [Int.toNat_natCast,List.set_append_right _ _ (by simp [cB])]
  simp only [cB,List.length_map,List.length_range,Nat.sub_self,List.drop_eq_getElem_cons h,List.set_cons_zero,List.range_succ,List.map_append,List.map_cons,List.map_nil,List.append_assoc,List.cons_append,List.nil_append]
theorem sr_eq : ∀ k : Nat,k <= mm.length -> (x7 p mm x t k).2 = jA p mm x t k /\ (jA p mm x t k = true -> (x7 p mm x t k).1 = cB p mm x t k ++ mm.drop k)
  | 0,_=>⟨rfl,fun _=>rfl⟩
  | k + 1,hk=>by
    obtain ⟨i1,i2⟩ := sr_eq k omG
    rw [x7,jA,i1]
    by_cases c : jA p mm x t k = true
    . rw [if_pos c,i2 c,c,Bool.true_and]
      by_cases d : (cD p x k).2 = true
      . have e : p7 p (k : Int) x t (kAt mm k) = s1 17 p.w 0 [(cD p x k).1,t,mm.getD (k : Int).toNat K.terms.dflt] := by
          unfold p7
          rw [if_pos (show (s1 14 1 0 [cT p.w (k : Int),x]).2 = true from d),Int.toNat_natCast];rfl
        rw [if_pos d,<- sl_step (p := p) (x := x) (t := t) (show k < mm.length by omega),e]
        exact ⟨rfl,fun _=>rfl⟩
      . have e : p7 p (k : Int) x t (kAt mm k) = (zT,false) := by
          unfold p7
          rw [if_neg (show ¬ (s1 14 1 0 [cT p.w (k : Int),x]).2 = true from d)]
        rw [if_neg d,e]
        exact ⟨rfl,fun q=>by cases q⟩
    . rw [if_neg c,i1,show jA p mm x t k = false by simpa using c]
      exact ⟨rfl,fun q=>by cases q⟩
theorem sV (hP : PI p s) (hk : g5 p s i = 0) : (p5 p s i).2 = (i6 p s i).2 /\ ((i6 p s i).2 = true -> (p5 p s i).1 = (i6 p s i).1) := by
  have hM := a7 hP.hp
  have ml := hP.ml
  by_cases c14 : i.op = 14
  . have e : i6 p s i = ({ s with code := 1 },true) := by unfold i6;simp [c14]
    have e2 : p5 p s i = ({ s with code := 1 },true) := if_pos c14
    rw [e,e2];exact ⟨rfl,fun _=>rfl⟩
  by_cases c7 : i.op = 7
  . have e : i6 p s i = ({ s with regs := s.regs.set i.a.toNat (rB p s.mem (rgT s i.b)).1,pc := s.pc + 1 },(rB p s.mem (rgT s i.b)).2) := by unfold i6;simp [c7]
    have e2 : p5 p s i = ({ s with regs := s.regs.set i.a.toNat (mF p s.mem (rgT s i.b)).1,pc := s.pc + 1 },(mF p s.mem (rgT s i.b)).2) := by
      unfold p5
      rw [if_neg c14,if_neg (by rw [hk];decide),if_pos c7]
    rw [e,e2]
    unfold mF rB
    by_cases c : (rgT s i.b).op = 0
    . rw [if_pos c,if_pos c];exact ⟨rfl,fun _=>rfl⟩
    . rw [if_neg c,if_neg c]
      have q := lr_eq (mm := s.mem) (x := rgT s i.b) hM.1 (p.mem.toNat - 1)
      exact ⟨q.1,fun h=>by rw [q.2 h]⟩
  by_cases c8 : i.op = 8
  . have e : i6 p s i = ({ s with mem := (bB p s.mem (rgT s i.a) (rgT s i.b)).1,pc := s.pc + 1 },(bB p s.mem (rgT s i.a) (rgT s i.b)).2) := by unfold i6;simp [c8]
    have e2 : p5 p s i = ({ s with mem := (cF p s.mem (rgT s i.a) (rgT s i.b)).1,pc := s.pc + 1 },(cF p s.mem (rgT s i.a) (rgT s i.b)).2) := by
      unfold p5
      rw [if_neg c14,if_neg (by rw [hk];decide),if_neg c7,if_pos c8]
    rw [e,e2]
    unfold cF bB
    by_cases c : (rgT s i.a).op = 0
    . rw [if_pos c,if_pos c];exact ⟨rfl,fun _=>rfl⟩
    . rw [if_neg c,if_neg c]
      have q := sr_eq (p := p) (mm := s.mem) (x := rgT s i.a) (t := rgT s i.b) p.mem.toNat omG
      have hd : s.mem.drop p.mem.toNat = [] := List.drop_eq_nil_of_le omG
      by_cases d : jA p s.mem (rgT s i.a) (rgT s i.b) p.mem.toNat = true
      . rw [if_pos d]
        exact ⟨q.1.trans d,fun _=>by rw [q.2 d,hd,List.append_nil]⟩
      . rw [if_neg d]
        exact ⟨q.1.trans (by simpa using d),fun h=>by cases h⟩
  . rw [cL c14 hk c7 c8];exact ⟨rfl,fun _=>rfl⟩
/-! ### the reference's step, path by path -/
abbrev up (s : V.Path) : V.Path := { s with steps := s.steps + 1 }
abbrev insAt (p : V.Prog) (s : V.Path) : V.Ins := p.code.getD s.pc.toNat K.inss.dflt
theorem qan (h : ¬ g5 p s i = 0) : r5 i = false := by
  unfold g5 at h
  unfold r5
  refine decide_eq_false (fun q=>?_)
  by_cases c5 : i.op = 5
  . omega
  by_cases c6 : i.op = 6
  . omega
  by_cases c11 : i.op = 11
  . omega
  by_cases c12 : i.op = 12
  . omega
  rw [if_neg (fun e=>c5 e.1),if_neg (fun e=>c6 e.1),if_neg (fun e=>c11 e.1),if_neg (fun e=>c12 e.1)] at h
  exact h rfl
theorem qg7 (h : r5 i = false) : f3 p s i = (zT,true) := by
  unfold r5 at h
  have h := of_decide_eq_false h
  unfold f3
  rw [if_neg omG]
  by_cases c : i.op = 3
  . rw [if_pos c,if_neg omG]
  . rw [if_neg c,if_neg omG,if_neg omG]
theorem tS (h : r5 i = false) : (f3 p s i).2 = true := by rw [qg7 h]
theorem isC_not {t : V.Term} (ht : okT t = true) (hw : t.w = 1) (h0 : ¬ (t.op = 0 /\ t.n = 0)) (h1 : ¬ (t.op = 0 /\ t.n = 1)) : ¬ t.op = 0 := fun e=>by
  have q := const_w ht e
  rw [hw] at q
  have h3 := (u4 q).2
  have e2 : (2 : Int) ^ (1 : Int).toNat = 2 := rfl
  rw [e2] at h3
  omega
theorem st_big (hc : s.code = 0) (h4 : ¬ 400 <= s.steps) (hp : ¬ s.pc = p.code.length) (h : (f3 p (up s) (insAt p s)).2 = false) : u0 p s = [{ up s with code := 9 }] := by
  have hk : g5 p (up s) (insAt p s) = 0 := by
    by_cases c : g5 p (up s) (insAt p s) = 0
    . exact c
    . rw [qg7 (qan c)] at h;cases h
  rw [fJ hc h4 hp hk,dv_1 h]
structure St (p : V.Prog) (s : V.Path) : Prop where
  c : s.code = 0
  n : ¬ 400 <= s.steps
  q : ¬ s.pc = p.code.length
theorem pY (ha : r5 i = true) : g5 p s i = 0 := by
  by_cases c : g5 p s i = 0
  . exact c
  . have := qan c
    rw [ha] at this;cases this
theorem ny_0 (h : (f3 p s i).1.op = 0 /\ (f3 p s i).1.n = 0) : NoYes p s i := ⟨fun q=>by omega⟩
theorem st_big' (h : St p s) (h1 : (f3 p (up s) (insAt p s)).2 = false) : u0 p s = [{ up s with code := 9 }] := st_big h.c h.n h.q h1
theorem cU (h : St p s) (hP : PI p (up s)) (h1 : (f3 p (up s) (insAt p s)).2 = true) (ha : NoYes p (up s) (insAt p s)) (hn : (p5 p (up s) (insAt p s)).2 = false) : u0 p s = [{ up s with code := 9 }] := by
  have hk : g5 p (up s) (insAt p s) = 0 := by
    by_cases c : g5 p (up s) (insAt p s) = 0
    . exact c
    . have h14 : ¬ (insAt p s).op = 14 := fun e=>c (by
        unfold g5
        rw [if_neg omG,if_neg omG,if_neg omG,if_neg omG])
      rw [bL h14 rfl c] at hn;cases hn
  rw [fJ h.c h.n h.q hk,dv_3 h1 ha ((sV hP hk).1.symm.trans hn)]
theorem fQ (h : St p s) (hP : PI p (up s)) (h1 : (f3 p (up s) (insAt p s)).2 = true) (ha : NoYes p (up s) (insAt p s)) (hr : r5 (insAt p s) = false \/ (f3 p (up s) (insAt p s)).1.op = 0) (hn : (p5 p (up s) (insAt p s)).2 = true) : u0 p s = [(p5 p (up s) (insAt p s)).1] := by
  by_cases hk : g5 p (up s) (insAt p s) = 0
  . have e := sV hP hk
    have hf := e.1.symm.trans hn
    rw [fJ h.c h.n h.q hk,dv_4 h1 ha hf hr,e.2 hf]
  . have h14 : ¬ (insAt p s).op = 14 := fun e => hk (by
        unfold g5
        rw [if_neg omG,if_neg omG,if_neg omG,if_neg omG])
    rw [bL h14 rfl hk,stp_4 h.c h.n h.q hk]
theorem sr_yes (h : St p s) (ha : r5 (insAt p s) = true) (h1 : (f3 p (up s) (insAt p s)).2 = true) (hc : (f3 p (up s) (insAt p s)).1.op = 0 /\ (f3 p (up s) (insAt p s)).1.n = 1) : u0 p s = [p9 (up s) (insAt p s)] := by
  rw [fJ h.c h.n h.q (pY ha),dv_2 h1 ha hc]
theorem qe2 {c : List V.Term} {t : List Int} : p5 p { s with cond := c,turns := t } i = ({ (p5 p s i).1 with cond := c,turns := t },(p5 p s i).2) := by
  have e1 : g5 p { s with cond := c,turns := t } i = g5 p s i := rfl
  have e2 : i6 p { s with cond := c,turns := t } i = ({ (i6 p s i).1 with cond := c,turns := t },(i6 p s i).2) := by
    unfold i6
    dsimp only
    by_cases c1 : i.op = 1
    . rw [if_pos c1,if_pos c1]
    rw [if_neg c1,if_neg c1]
    by_cases c2 : i.op = 2
    . rw [if_pos c2,if_pos c2]
    rw [if_neg c2,if_neg c2]
    by_cases c3 : i.op = 3
    . rw [if_pos c3,if_pos c3]
    rw [if_neg c3,if_neg c3]
    by_cases c4 : i.op = 4
    . rw [if_pos c4,if_pos c4]
    rw [if_neg c4,if_neg c4]
    by_cases c5 : i.op = 5
    . rw [if_pos c5,if_pos c5]
    rw [if_neg c5,if_neg c5]
    by_cases c6 : i.op = 6
    . rw [if_pos c6,if_pos c6]
    rw [if_neg c6,if_neg c6]
    by_cases c7 : i.op = 7
    . rw [if_pos c7,if_pos c7]
    rw [if_neg c7,if_neg c7]
    by_cases c8 : i.op = 8
    . rw [if_pos c8,if_pos c8]
    rw [if_neg c8,if_neg c8]
    by_cases c9 : i.op = 9
    . rw [if_pos c9,if_pos c9]
    rw [if_neg c9,if_neg c9]
    by_cases c11 : i.op = 11
    . rw [if_pos c11,if_pos c11]
    rw [if_neg c11,if_neg c11]
    by_cases c12 : i.op = 12
    . rw [if_pos c12,if_pos c12]
    rw [if_neg c12,if_neg c12]
    by_cases c14 : i.op = 14
    . rw [if_pos c14,if_pos c14]
    rw [if_neg c14,if_neg c14]
  unfold p5
  rw [e1,e2]
  dsimp only
  by_cases c14 : i.op = 14
  . rw [if_pos c14,if_pos c14]
  rw [if_neg c14,if_neg c14]
  by_cases ck : g5 p s i ≠ 0
  . rw [if_pos ck,if_pos ck]
  rw [if_neg ck,if_neg ck]
  by_cases c7 : i.op = 7
  . rw [if_pos c7,if_pos c7]
  rw [if_neg c7,if_neg c7]
  by_cases c8 : i.op = 8
  . rw [if_pos c8,if_pos c8]
  rw [if_neg c8,if_neg c8]
theorem qnf {c : List V.Term} {t : List Int} : p9 { s with cond := c,turns := t } i = { p9 s i with cond := c,turns := t } := by
  unfold p9
  dsimp only
  repeat' split
  all_goals rfl
structure Sf (p : V.Prog) (s : V.Path) : Prop where
  st : St p s
  hP : PI p (up s)
  ha : r5 (insAt p s) = true
  h1 : (f3 p (up s) (insAt p s)).2 = true
  h0 : ¬ ((f3 p (up s) (insAt p s)).1.op = 0 /\ (f3 p (up s) (insAt p s)).1.n = 0)
  h2 : ¬ ((f3 p (up s) (insAt p s)).1.op = 0 /\ (f3 p (up s) (insAt p s)).1.n = 1)
theorem Sf.op (h : Sf p s) : ¬ (f3 p (up s) (insAt p s)).1.op = 0 :=
  isC_not (kP h.ha h.h1).1 (kP h.ha h.h1).2 h.h0 h.h2
theorem gU (h : Sf p s) (hb : (s1 1 1 0 [(f3 p (up s) (insAt p s)).1]).2 = false \/ 60 <= s.cond.length \/ 60 <= s.turns.length) : u0 p s = [{ up s with code := 9 }] := by
  rw [fJ h.st.c h.st.n h.st.q (pY h.ha)]
  by_cases c : (i6 p (up s) (insAt p s)).2 = true
  . exact dv_5 h.h1 h.ha h.op c hb
  . exact dv_3 h.h1 ⟨fun q=>h.op q.2.1⟩ (by simpa using c)
theorem sf_no (h : Sf p s) {c : List V.Term} {t : List Int} (hn : (p5 p { up s with cond := c,turns := t } (insAt p s)).2 = false) : u0 p s = [{ up s with code := 9 }] := by
  rw [qe2] at hn
  exact cU h.st h.hP h.h1 ⟨fun q=>h.op q.2.1⟩ hn
theorem qa6 (h : Sf p s) (hb : (s1 1 1 0 [(f3 p (up s) (insAt p s)).1]).2 = true) (hc : ¬ 60 <= s.cond.length) (ht : ¬ 60 <= s.turns.length) {c : List V.Term} {t : List Int} {t2 : List Int} (e1 : c = s.cond ++ [(s1 1 1 0 [(f3 p (up s) (insAt p s)).1]).1]) (e2 : t = s.turns ++ [0]) (e3 : t2 = s.turns ++ [1])
    (hn : (p5 p { up s with cond := c,turns := t } (insAt p s)).2 = true) :
    u0 p s = [p9 { up s with cond := s.cond ++ [(f3 p (up s) (insAt p s)).1],turns := t2 } (insAt p s),(p5 p { up s with cond := c,turns := t } (insAt p s)).1] := by
  subst e1 e2 e3
  rw [qe2] at hn ⊢
  have hk := pY (p := p) (s := up s) h.ha
  have e := sV h.hP hk
  have hf := e.1.symm.trans hn
  rw [fJ h.st.c h.st.n h.st.q hk,dv_6 h.h1 h.ha h.op hf hb hc ht,qnf,e.2 hf]
end
set_option maxRecDepth 100000
set_option maxHeartbeats 40000000
theorem and_l {a b : Int} (h : a = 0 /\ b = 0) : a = 0 := h.1
theorem not_01 {a b : Int} (h : a = 0 /\ b = 0) : ¬ (a = 0 /\ b = 1) := fun q=>by omega
theorem qbb (pc : Int) (rg mm : List V.Term) (sk : List Int) (ic : Int) (ot : List V.Term) (cd sp : Int) (cn : List V.Term) (tr : List Int) (h : CpOk ⟨pc,rg,mm,sk,ic,ot,cd,sp,cn,tr⟩) : CallsV Tryz.prog 62 [.agg [.dat (.i pc),.dat (.seq .terms rg),.dat (.seq .terms mm),.dat (.seq .ints sk),.dat (.i ic),.dat (.seq .terms ot),.dat (.i cd),.dat (.i sp),.dat (.seq .terms cn),.dat (.seq .ints tr)]] (.agg [.dat (.i pc),.dat (.seq .terms rg),.dat (.seq .terms mm),.dat (.seq .ints sk),.dat (.i ic),.dat (.seq .terms ot),.dat (.i cd),.dat (.i sp),.dat (.seq .terms cn),.dat (.seq .ints tr)]) :=
  (lQ pc rg mm sk ic ot cd sp cn tr h).toV fun res B ⟨h1,h2⟩=>by subst h1 h2;exact ⟨rfl,rfl,rfl,rfl,rfl,rfl,rfl,rfl,rfl,rfl,True.intro⟩
theorem qiz (pc : Int) (rg mm : List V.Term) (sk : List Int) (ic : Int) (ot : List V.Term) (cd sp : Int) (cn : List V.Term) (tr : List Int) (xo xw xn : Int) (xm : ByteArray) (xk : List V.Term) (n : Int) (h : CpOk ⟨pc,rg,mm,sk,ic,ot,cd,sp,cn,tr⟩) : CallsV Tryz.prog 68 [.agg [.dat (.i pc),.dat (.seq .terms rg),.dat (.seq .terms mm),.dat (.seq .ints sk),.dat (.i ic),.dat (.seq .terms ot),.dat (.i cd),.dat (.i sp),.dat (.seq .terms cn),.dat (.seq .ints tr)],.agg [.dat (.i xo),.dat (.i xw),.dat (.i xn),.dat (.str xm),.dat (.seq .terms xk)],.dat (.i n)] (.agg [.dat (.i pc),.dat (.seq .terms rg),.dat (.seq .terms mm),.dat (.seq .ints sk),.dat (.i ic),.dat (.seq .terms ot),.dat (.i cd),.dat (.i sp),.dat (.seq .terms (cn ++ [⟨xo,xw,xn,xm,xk⟩])),.dat (.seq .ints (tr ++ [n]))]) :=
  (qi0 pc rg mm sk ic ot cd sp cn tr xo xw xn xm xk n h).toV fun res B ⟨h1,h2⟩=>by subst h1 h2;exact ⟨rfl,rfl,rfl,rfl,rfl,rfl,rfl,rfl,rfl,rfl,True.intro⟩
theorem qa9 (w mem inn : Int) (code : List V.Ins) (pc : Int) (rg mm : List V.Term) (sk : List Int) (ic : Int) (ot : List V.Term) (cd sp : Int) (cn : List V.Term) (tr : List Int) (hP : PI ⟨w,mem,inn,code⟩ ⟨pc,rg,mm,sk,ic,ot,cd,sp,cn,tr⟩) : CallsV Tryz.prog 29 [.agg [.dat (.i w),.dat (.i mem),.dat (.i inn),.dat (.seq .inss code)],.agg [.dat (.i pc),.dat (.seq .terms rg),.dat (.seq .terms mm),.dat (.seq .ints sk),.dat (.i ic),.dat (.seq .terms ot),.dat (.i cd),.dat (.i sp),.dat (.seq .terms cn),.dat (.seq .ints tr)]] (.dat (.seq .paths (u0 ⟨w,mem,inn,code⟩ ⟨pc,rg,mm,sk,ic,ot,cd,sp,cn,tr⟩))) := by
  refine oV Tryz.func29 ⟨?_⟩
  repeat' (first|((with_reducible refine yS [62] ?_ ?_);exact rfl;(conv=>whnf);simp only [List.nil_append,List.cons_append])|((with_reducible refine fun (K1 : KT) hK=>?_);refine r3 ⟨?_⟩)|((with_reducible show K1 _ _);subst hK;conv=>whnf)|(with_reducible exact rfl)|refine y7 ⟨?_⟩|((with_reducible show WEach _ _);refine rA rfl ?_ ?_;conv=>whnf)|refine st0 ⟨?_⟩|((with_reducible refine SplS.mk (fun h=>?_) (fun h=>?_)) <;> first|exact u5|(subst h;conv=>whnf)|(conv=>whnf))|refine f2 ⟨?_⟩ ⟨?_⟩|refine vP (qbb (h := ?_) ..) ⟨?_⟩|((with_reducible refine iC (g := 63) ?_);refine ⟨_,_,qi2 (hP := ?_) (hi := ?_) ..,fun res B hRB=>?_⟩;rotate_right;obtain (⟨hq,rfl,rfl⟩|⟨hq,rfl,rfl⟩) := hRB <;> conv=>whnf)|refine vP (oC ..) ⟨?_⟩|refine gS (s_l06No (hb := ?_) (hP := ?_) (hi := ?_) (hpc := ?_) (ha := ?_) (hc := ?_) ..) ⟨?_⟩|refine vP (qit ..) ⟨?_⟩|refine gS (jN (hb := ?_) (hn := ?_) ..) ⟨?_⟩|refine vP (qiz (h := ?_) ..) ⟨?_⟩|((with_reducible refine y9 (g := 62) ?_);(conv=>whnf);refine ⟨_,_,qbb (h := ?_) ..,rfl,zV ?_⟩;rotate_right;conv=>whnf)|(intro h;conv=>whnf))
  all_goals repeat clear hK K1
  all_goals (have cl : cn.length <= 60 := hP.cl;have tl : tr.length <= 60 := hP.tl;(try (have st0 : 0 <= sp := hP.st0;have st1 : sp <= 400 := hP.st1;have hw : IntKind.i64.wrap (sp + 1) = sp + 1 := j3 omG omG;simp only [hw] at *));(try simp only [V.Term.eta,Bool.not_eq_false'] at *);(try (have pc0 : 0 <= pc := hP.pc0;have pc1 : pc <= code.length := hP.pc1)))
  all_goals first|(exact Bool.noConfusion (show true = false by with_reducible assumption))|(exact Bool.noConfusion (show false = true by with_reducible assumption))|exact hP.cp|exact congrArg List.length (stp_1 asmR)|exact congrArg List.length (stp_2 (show (400 : Int) <= 400 by decide))|((with_reducible show Dat.seq _ _ = _);refine congrArg (Dat.seq K.paths) ?_;exact stp_3 rfl (by show ¬ 400 <= sp;omega) rfl)|(have hs : St ⟨w,mem,inn,code⟩ ⟨pc,rg,mm,sk,ic,ot,0,sp,cn,tr⟩ := ⟨rfl,by show ¬ 400 <= sp;omega,by show ¬ pc = code.length;omega⟩;have hU := hP.steps (show sp < 400 by omega);first|exact hU.cp|exact hU|exact mN hP.hp hP.pc0 (by show pc < code.length;omega)|(with_reducible assumption)|((with_reducible show (_ : Int) < _);omega)|((with_reducible show okTs _ = true);exact kJ (kP (by assumption) (by assumption)).1)|((with_reducible show PI _ _);exact hU.cond (eB (by assumption)).1 hP.co (by show ¬ 60 <= cn.length;omega) (by show ¬ 60 <= tr.length;omega))|((with_reducible show AddrOk _ _ _);first|exact qg8 (tS (by assumption)) (by assumption)|exact rY (by assumption) (not_01 (by assumption))|(have q := rY (p := ⟨w,mem,inn,code⟩) (s := ⟨pc,rg,mm,sk,ic,ot,0,sp + 1,cn,tr⟩) (by assumption) (by assumption);exact ⟨q.l,q.s⟩))|((with_reducible show CpOk _);first|(refine (hP.step _ ?_).cp;rw [fQ hs hU (tS (by assumption)) (rN (by assumption)) (.inl (by assumption)) (by assumption)];exact List.mem_singleton_self _)|(refine (hP.step _ ?_).cp;rw [fQ hs hU (by assumption) (ny_0 (by assumption)) (.inr (and_l (by assumption))) (by assumption)];exact List.mem_singleton_self _)|(have hf : Sf ⟨w,mem,inn,code⟩ ⟨pc,rg,mm,sk,ic,ot,0,sp,cn,tr⟩ := ⟨hs,hU,by assumption,by assumption,by assumption,by assumption⟩;refine (hP.step _ ?_).cp;rw [qa6 hf (by assumption) (by show ¬ 60 <= cn.length;omega) (by show ¬ 60 <= tr.length;omega) rfl rfl rfl (by assumption)];exact List.mem_cons_of_mem _ (List.mem_singleton_self _)))|((with_reducible show Dat.seq _ _ = _);refine congrArg (Dat.seq K.paths) ?_;first|exact st_big' hs (by assumption)|exact cU hs hU (tS (by assumption)) (rN (by assumption)) (by assumption)|exact cU hs hU (by assumption) (ny_0 (by assumption)) (by assumption)|exact fQ hs hU (tS (by assumption)) (rN (by assumption)) (.inl (by assumption)) (by assumption)|exact fQ hs hU (by assumption) (ny_0 (by assumption)) (.inr (and_l (by assumption))) (by assumption)|exact sr_yes hs (by assumption) (by assumption) (by assumption)|(have hf : Sf ⟨w,mem,inn,code⟩ ⟨pc,rg,mm,sk,ic,ot,0,sp,cn,tr⟩ := ⟨hs,hU,by assumption,by assumption,by assumption,by assumption⟩;first|exact gU hf (.inl (by assumption))|exact gU hf (.inr (.inl (by show 60 <= cn.length;omega)))|exact gU hf (.inr (.inr (by show 60 <= tr.length;omega)))|exact sf_no hf (by assumption)|exact qa6 hf (by assumption) (by show ¬ 60 <= cn.length;omega) (by show ¬ 60 <= tr.length;omega) rfl rfl rfl (by assumption))))|skip
theorem qjm (w mem inn : Int) (code : List V.Ins) (hp : i4 ⟨w,mem,inn,code⟩ = true) : CallsV Tryz.prog 27 [.agg [.dat (.i w),.dat (.i mem),.dat (.i inn),.dat (.seq .inss code)]] (kH (s7 ⟨w,mem,inn,code⟩)) := by
  refine oV Tryz.func27 ⟨?_⟩
  repeat' (first|((with_reducible refine fun (K1 : KT) hK=>?_);refine r3 ⟨?_⟩)|((with_reducible show K1 _ _);subst hK;conv=>whnf)|(with_reducible refine a8 ?_)|(with_reducible exact rfl)|refine st0 ⟨?_⟩|((with_reducible refine SplS.mk (fun h=>?_) (fun h=>?_)) <;> first|exact u5|(subst h;conv=>whnf)|(conv=>whnf))|refine f2 ⟨?_⟩ ⟨?_⟩|(refine y5 ({k : Nat // (k : Int) <= mem}) (fun ⟨k,hk⟩=>x5 Tryz.f27.ntmps [(1,.ptr 1 0),(2,.ptr 2 0),(3,.ptr 3 0),(5,.dat (.i k))] [(1,.box [.dat (.i w),.dat (.i mem),.dat (.i inn),.dat (.seq .inss code)]),(2,.box [.dat (.i 0),.nils,.nils,.nils,.dat (.i 0),.nils,.dat (.i 0),.dat (.i 0),.nils,.nils]),(3,.box [.dat (.i 0),.row 21,.row 35,.nils,.dat (.i 0),.nils,.dat (.i 0),.dat (.i 0),.nils,.nils]),(21,.row 90 .terms (List.replicate 4 (cT w 0)) false),(35,.row 90 .terms (List.replicate k (cT w 0)) false)]) (fun ⟨k,hk⟩=>mem.toNat - k) ⟨0, ?_⟩ (SubP.sub (σ := [(1,some 1),(2,some 2),(3,some 3),(21,some 21),(35,none)]) ⟨⟨rfl,rfl,rfl⟩,⟨rr,rr,rr,o0 ?_,trivial⟩,⟨⟨j0 ?_,j0 ?_,j0 ?_,j0 ?_,trivial⟩,⟨j0 ?_,trivial,trivial,trivial,j0 ?_,trivial,j0 ?_,j0 ?_,trivial,trivial,trivial⟩,⟨j0 ?_,rfl,rfl,trivial,j0 ?_,trivial,j0 ?_,j0 ?_,trivial,trivial,trivial⟩,⟨rr, ?_⟩, ?_,trivial⟩⟩) (fun ⟨k,hk⟩=>?_);rotate_right;conv=>whnf)|(refine b6 (⟨k + 1, ?_⟩ : {k : Nat // (k : Int) <= mem}) ?_ (SubP.sub (σ := [(1,some 1),(2,some 2),(3,some 3),(21,some 21),(35,some 35)]) ⟨⟨rfl,rfl,rfl⟩,⟨rr,rr,rr,o0 ?_,trivial⟩,⟨⟨j0 ?_,j0 ?_,j0 ?_,j0 ?_,trivial⟩,⟨j0 ?_,trivial,trivial,trivial,j0 ?_,trivial,j0 ?_,j0 ?_,trivial,trivial,trivial⟩,⟨j0 ?_,rfl,rfl,trivial,j0 ?_,trivial,j0 ?_,j0 ?_,trivial,trivial,trivial⟩,⟨rr, ?_⟩,⟨rr, ?_⟩,trivial⟩⟩))|(refine y5 ({k : Nat // k <= 4}) (fun ⟨k,hk⟩=>x5 Tryz.f27.ntmps [(1,.ptr 1 0),(2,.ptr 2 0),(3,.ptr 3 0),(4,.dat (.i k))] [(1,.box [.dat (.i w),.dat (.i mem),.dat (.i inn),.dat (.seq .inss code)]),(2,.box [.dat (.i 0),.nils,.nils,.nils,.dat (.i 0),.nils,.dat (.i 0),.dat (.i 0),.nils,.nils]),(3,.box [.dat (.i 0),.row 21,.nils,.nils,.dat (.i 0),.nils,.dat (.i 0),.dat (.i 0),.nils,.nils]),(21,.row 90 .terms (List.replicate k (cT w 0)) false)]) (fun ⟨k,hk⟩=>4 - k) ⟨0,Nat.zero_le _⟩ (SubP.sub (σ := [(1,some 1),(2,some 2),(3,some 3),(21,none)]) ⟨⟨rfl,rfl,rfl⟩,⟨rr,rr,rr,o0 ?_,trivial⟩,⟨⟨j0 ?_,j0 ?_,j0 ?_,j0 ?_,trivial⟩,⟨j0 ?_,trivial,trivial,trivial,j0 ?_,trivial,j0 ?_,j0 ?_,trivial,trivial,trivial⟩,⟨j0 ?_,rfl,trivial,trivial,j0 ?_,trivial,j0 ?_,j0 ?_,trivial,trivial,trivial⟩, ?_,trivial⟩⟩) (fun ⟨k,hk⟩=>?_);rotate_right;conv=>whnf)|(refine b6 (⟨k + 1, ?_⟩ : {k : Nat // k <= 4}) ?_ (SubP.sub (σ := [(1,some 1),(2,some 2),(3,some 3),(21,some 21)]) ⟨⟨rfl,rfl,rfl⟩,⟨rr,rr,rr,o0 ?_,trivial⟩,⟨⟨j0 ?_,j0 ?_,j0 ?_,j0 ?_,trivial⟩,⟨j0 ?_,trivial,trivial,trivial,j0 ?_,trivial,j0 ?_,j0 ?_,trivial,trivial,trivial⟩,⟨j0 ?_,rfl,trivial,trivial,j0 ?_,trivial,j0 ?_,j0 ?_,trivial,trivial,trivial⟩,⟨rr, ?_⟩,trivial⟩⟩))|refine vP (kN ..) ⟨?_⟩|refine vP (cG ..) ⟨?_⟩|fail)
  all_goals repeat clear hK K1
  all_goals (have hM := a7 hp;dsimp only at hM)
  all_goals first|((with_reducible show (_ : Int) <= _);omega)|((with_reducible show (_ : Nat) < _);((try dsimp only);omega))|(refine congrArg (Dat.int .i64) ?_;rw [j3 omG omG];rfl)|exact congrArg (Sigma.mk K.terms) List.replicate_succ'|((with_reducible show (_ : Nat) <= _);(first|omega|(show ((List.replicate k (cT w 0)).length + 1) * 64 <= _;rw [List.length_replicate];omega)|(show (List.replicate k (cT w 0)).length + 1 <= 2 ^ 63 - 1;rw [List.length_replicate];omega)))|(have e4 : mem.toNat = k := omG;exact ⟨⟨rfl,rfl,congrArg (Dat.seq K.terms) (show List.replicate mem.toNat (cT w 0) = List.replicate k (cT w 0) by rw [e4]),rfl,rfl,rfl,rfl,rfl,rfl,rfl,True.intro⟩⟩)|(have e4 : k = 4 := omG;subst e4;exact rfl)|exact rfl|skip
section
variable {p : V.Prog} {tr : List Int} {fuel : Int} {k u : Nat} {s : V.Path}
end
end Vg
