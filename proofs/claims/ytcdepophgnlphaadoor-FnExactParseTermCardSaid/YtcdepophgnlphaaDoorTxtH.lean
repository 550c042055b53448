/- The reference's ParseTerm: contract. Condition: the text is no longer than the law lets through. -/
import Derived.Test.YtcdepophgnlphaaDoorTxtG
import Derived.Test.YtcdepophgnlphaaDoorTermV
import Derived.Test.YtcdepophgnlphaaDoorTermMS
namespace Vg
open Go Go.Proofs
set_option maxRecDepth 100000
set_option maxHeartbeats 40000000
theorem mL : ∀ (l wd : Bs), (u4 wd l).length ≤ 2 * l.length + 1
  | [], wd => by rw [u4]; split <;> simp
  | c :: l, wd => by
    have h1 := mL l []
    have h2 := mL l (wd ++ [c])
    rw [u4]
    split
    · simp only [List.length_append, List.length_cons]
      split <;> split <;> simp only [List.length_cons, List.length_nil] <;> omega
    · rw [List.length_cons]; omega
theorem lL : ∀ (l wd : Bs) (x : Bs), x ∈ u4 wd l → x.length ≤ wd.length + l.length
  | [], wd, x, h => by
    rw [u4] at h
    by_cases e : wd = []
    · rw [if_pos e] at h; exact absurd h List.not_mem_nil
    · rw [if_neg e, List.mem_singleton] at h; subst h; omega
  | c :: l, wd, x, h => by
    rw [u4] at h
    split at h
    · rw [List.mem_append, List.mem_append] at h
      rw [List.length_cons]
      rcases h with h | h | h
      · by_cases e : wd = []
        · rw [if_pos e] at h; exact absurd h List.not_mem_nil
        · rw [if_neg e, List.mem_singleton] at h; subst h; omega
      · by_cases e : c = 32
        · rw [if_pos e] at h; exact absurd h List.not_mem_nil
        · rw [if_neg e, List.mem_singleton] at h; subst h; simp only [List.length_cons, List.length_nil]; omega
      · have := lL l [] x h; rw [List.length_nil] at this; omega
    · have := lL l _ x h
      rw [List.length_append, List.length_cons, List.length_nil] at this
      rw [List.length_cons]; omega
theorem wds_map (s : ByteArray) : (q7 s).map (·.data.toList) = u4 [] s.data.toList := by
  unfold q7
  rw [List.map_map]
  exact List.map_id _
theorem sK {s : ByteArray} (hs : s.size ≤ 1048576) : SufW (q7 s) (some ((q7 s).map (·.data.toList))) := by
  have hl : s.data.toList.length = s.size := rfl
  refine ⟨fun r e => ?_, ?_, fun x hx => ?_⟩
  · injection e with e; subst e; exact List.suffix_refl _
  · have := mL s.data.toList []
    unfold q7
    rw [List.length_map]; omega
  · obtain ⟨y, hy, rfl⟩ := List.mem_map.1 hx
    have := lL _ _ _ hy
    rw [List.length_nil] at this
    show y.length ≤ _
    omega
/-! ### names are short -/
theorem nm_leaf {ws : List ByteArray} {st : Wds} (h : SufW ws st) : nmT (x6 (j3 st).1).1 = true := by
  have hs : (j3 st).1.length ≤ 1048576 := dM h
  have z : ∀ (a b : Int) (nm : ByteArray), nm.size ≤ 1048576 → nmT ⟨22, a, b, nm, []⟩ = true ∧ nmT ⟨0, a, b, nm, []⟩ = true := fun a b nm hn => by
    refine ⟨?_, ?_⟩ <;> (rw [nmT, g8, decide_eq_true hn]; rfl)
  unfold x6
  split
  · exact (z 0 0 _ (Nat.zero_le _)).2
  · rename_i a b hc
    have ha : a.length ≤ (j3 st).1.length := by
      have key : ∀ (l a b : Bs), f8 l = some (a, b) → a.length ≤ l.length := by
        intro l
        induction l with
        | nil => intro a b h; cases h
        | cons c l ih =>
          intro a b h
          rw [f8] at h
          split at h
          · injection h with h; injection h with h1 h2; subst h1; exact Nat.zero_le _
          · split at h
            · next a' b' e => injection h with h; injection h with h1 h2; subst h1; have := ih _ _ e; simp only [List.length_cons]; omega
            · cases h
      exact key _ _ _ hc
    split
    · exact (z _ _ _ (Nat.zero_le _)).2
    · exact (z _ _ ⟨a.toArray⟩ (show a.length ≤ 1048576 by omega)).1
theorem iS : ∀ (a b : List V.Term), g8 (a ++ b) = (g8 a && g8 b)
  | [], b => by rw [List.nil_append, g8]; rfl
  | t :: a, b => by rw [List.cons_append, g8, g8, iS a b, Bool.and_assoc]
theorem fS {ws : List ByteArray} {rec : Wds → V.Term × Wds} (h1 : ∀ st, SufW ws st → SufW ws (rec st).2) (h2 : ∀ st, SufW ws st → nmT (rec st).1 = true) :
    ∀ (g : Nat) (st : Wds) (acc : List V.Term), SufW ws st → g8 acc = true → g8 (z7 rec g st acc).1 = true
  | 0, st, acc, _, h => h
  | g + 1, none, acc, _, h => h
  | g + 1, some [], acc, _, h => h
  | g + 1, some (x :: l), acc, hs, h => by
    rw [z7]
    split
    · exact h
    · exact fS h1 h2 g _ _ (h1 _ hs) (by rw [iS, h, g8, h2 _ hs, g8]; rfl)
theorem eS {ws : List ByteArray} : ∀ (f : Nat) (st : Wds), SufW ws st → nmT (termS f st).1 = true
  | f, st, h => by
    have z : ∀ (a b c : Int) (ks : List V.Term), g8 ks = true → nmT ⟨a, b, c, ByteArray.empty, ks⟩ = true := fun a b c ks hk => by rw [nmT, hk]; rfl
    by_cases h1 : (j3 st).1 = [40]
    · by_cases h2 : u1 (u6 st) = 0
      · rw [xB h1 (.inl h2)]; exact z _ _ _ _ rfl
      · cases f with
        | zero => rw [xB h1 (.inr rfl)]; exact z _ _ _ _ rfl
        | succ f =>
          rw [oI h1 h2]
          have hk := fS (rec := termS f) (fun st' h' => SufW.term f st' h') (fun st' h' => eS f st' h') (r5 (wq4 st).2) (wq4 st).2 [] (vK h) rfl
          unfold j9
          split <;> exact z _ _ _ _ hk
    · rw [xF h1]; exact nm_leaf h
/-! ### the answer -/
section
variable {s : ByteArray}
noncomputable def m4 (s : ByteArray) : V.Term × Wds := termS 240 (some ((q7 s).map (·.data.toList)))
theorem gG (s : ByteArray) : prsT s.data.toList = if s.data.toList.length ≤ 9600 ∧ (m4 s).2 = some [] ∧ d7 (m4 s).1 = true ∧ fmtL (m4 s).1 = s.data.toList then ((m4 s).1, true) else (r4, false) := by
  unfold m4; rw [wds_map]; exact prs_S s.data.toList
theorem pr_l (h : (s.size : Int) > 9600) : prsT s.data.toList = (r4, false) := by
  have hl : s.data.toList.length = s.size := rfl
  rw [gG, if_neg (fun q => by have := q.1; omega)]
theorem at_e (hs : s.size ≤ 1048576) (h : d4 (q7 s) (m4 s).2 = ((q7 s).length : Int)) : (m4 s).2 = some [] := by
  have hw : SufW (q7 s) (m4 s).2 := SufW.term 240 _ (sK hs)
  exact nx_b hw omG omG
theorem pr_a (h : ¬ d4 (q7 s) (m4 s).2 = ((q7 s).length : Int)) : prsT s.data.toList = (r4, false) := by
  rw [gG, if_neg (fun q => h (by rw [q.2.1, at_s, List.length_nil]; omega))]
theorem pr_t (h : d7 ⟨(m4 s).1.op, (m4 s).1.w, (m4 s).1.n, (m4 s).1.name, (m4 s).1.kids⟩ = false) : prsT s.data.toList = (r4, false) := by
  rw [V.Term.eta] at h
  rw [gG, if_neg (fun q => by have := q.2.2.1; rw [h] at this; cases this)]
theorem pr_f (h : ((m0 (fmtL ⟨(m4 s).1.op, (m4 s).1.w, (m4 s).1.n, (m4 s).1.name, (m4 s).1.kids⟩)).toList == s.toList) = false) : prsT s.data.toList = (r4, false) := by
  rw [V.Term.eta] at h
  rw [gG, if_neg (fun q => str_ne h (by rw [q.2.2.2]; rfl))]
theorem pr_y (hs : s.size ≤ 1048576) (h0 : ¬ (s.size : Int) > 9600) (h1 : d4 (q7 s) (m4 s).2 = ((q7 s).length : Int)) (h2 : d7 ⟨(m4 s).1.op, (m4 s).1.w, (m4 s).1.n, (m4 s).1.name, (m4 s).1.kids⟩ = true)
    (h : ((m0 (fmtL ⟨(m4 s).1.op, (m4 s).1.w, (m4 s).1.n, (m4 s).1.name, (m4 s).1.kids⟩)).toList == s.toList) = true) : prsT s.data.toList = ((m4 s).1, true) := by
  have hl : s.data.toList.length = s.size := rfl
  rw [V.Term.eta] at h h2
  rw [gG, if_pos ⟨by omega, at_e hs h1, h2, congrArg (fun x : ByteArray => x.data.toList) (str_eq h)⟩]
theorem ok_t (h : d7 ⟨(m4 s).1.op, (m4 s).1.w, (m4 s).1.n, (m4 s).1.name, (m4 s).1.kids⟩ = true) : okT ⟨(m4 s).1.op, (m4 s).1.w, (m4 s).1.n, (m4 s).1.name, (m4 s).1.kids⟩ = true ∧ sizeT ⟨(m4 s).1.op, (m4 s).1.w, (m4 s).1.n, (m4 s).1.name, (m4 s).1.kids⟩ ≤ 240 := tC h
theorem nm_tm (hs : s.size ≤ 1048576) : nmT ⟨(m4 s).1.op, (m4 s).1.w, (m4 s).1.n, (m4 s).1.name, (m4 s).1.kids⟩ = true := by
  rw [V.Term.eta]; exact eS 240 _ (sK hs)
end
theorem s_rd (s : ByteArray) (hs : s.size ≤ 1048576) : CallsG Tryd.prog 10 [.ptr 0 0, .dat (.i 1)] [.box [.dat (.seq .strs (q7 s)), .dat (.i 0)]] 1
    (fun res B => res = q8 (m4 s).1 ∧ B = [.box [.dat (.seq .strs (q7 s)), .dat (.i (d4 (q7 s) (m4 s).2))]]) := qY (q7 s) (sK hs)
theorem cZ (s : ByteArray) (hs : s.size ≤ 1048576) : CallsV Tryd.prog 4 [.dat (.str s)] (.tup [q8 (prsT s.data.toList).1, .dat (.bool (prsT s.data.toList).2)]) := by
  refine oV Tryd.func4 ⟨?_⟩
  repeat' (first | ((with_reducible refine fun (K1 : KT) hK => ?_); refine i7 ⟨?_⟩) | ((with_reducible show K1 _ _); subst hK; conv => whnf) | (with_reducible exact rfl) | refine f4 ⟨?_⟩ | ((with_reducible refine SplS.mk (fun h => ?_) (fun h => ?_)) <;> first | exact g7 | (subst h; conv => whnf) | (conv => whnf)) | refine g5 ⟨?_⟩ ⟨?_⟩ | ((with_reducible first | refine p3 (g := 9) ?_ | show Exists _); refine ⟨_, rY (hs := ?_) .., rfl, ?_⟩; rotate_right; conv => whnf) | ((with_reducible refine d6 (g := 10) ?_); refine ⟨_, _, s_rd (hs := ?_) .., zV ?_⟩; rotate_right; conv => whnf) | ((with_reducible first | refine p3 (g := 11) ?_ | show Exists _); refine ⟨_, bZ (hn := ?_) .., rfl, ?_⟩; rotate_right; conv => whnf) | ((with_reducible first | refine p3 (g := 12) ?_ | show Exists _); refine ⟨_, wY (hk := ?_) (hz := ?_) .., rfl, ?_⟩; rotate_right; conv => whnf) | ((with_reducible first | refine p3 (g := 13) ?_ | show Exists _); refine ⟨_, xY (hk := ?_) .., rfl, ?_⟩; rotate_right; conv => whnf) | (intro h; conv => whnf))
  all_goals repeat clear hK K1
  all_goals first | exact True.intro | ((with_reducible show frzM _ (.dat _) _); first | exact db_eq (congrArg Prod.snd (pr_y hs asmR asmR asmR asmR)) | exact db_eq (congrArg Prod.snd (pr_l asmR)) | exact db_eq (congrArg Prod.snd (pr_a asmR)) | exact db_eq (congrArg Prod.snd (pr_t asmR)) | exact db_eq (congrArg Prod.snd (pr_f asmR))) | exact fr5Mn (congrArg Prod.fst (pr_l asmR)) | exact fr5Mn (congrArg Prod.fst (pr_a asmR)) | exact fr5Mn (congrArg Prod.fst (pr_t asmR)) | exact fr5Mn (congrArg Prod.fst (pr_f asmR)) | exact fr5M ((congrArg Prod.fst (pr_y hs asmR asmR asmR asmR)).trans (V.Term.eta _).symm) | exact hs | exact (ok_t asmR).1 | exact (ok_t asmR).2 | exact nm_tm hs | skip
end Vg
