/- Programs with a loop, in order, and facts that are drawn out of bytes: contracts. Condition: the bytes are not too many. -/
import Derived.Test.YtndmanmhalpjgaaGreatDoorGivP
import Derived.Test.YtndmanmhalpjgaaGreatDoorBase
namespace Vg
open Go Go.Proofs
set_option maxRecDepth 100000
set_option maxHeartbeats 40000000
theorem qaj (b : List Int) (i g lo hi' : Int) (hi : 0 ≤ i) (hl : b.length ≤ maxLen) : CallsG Tryz.prog 39 [.ptr 0 0, .dat (.i lo), .dat (.i hi')] [.box [.dat (.seq .bytes b), .dat (.i i), .dat (.i g)]] 1 (fun res B => ∃ x i' g' : Int, res = .dat (.i x) ∧ B = [.box [.dat (.seq .bytes b), .dat (.i i'), .dat (.i g')]] ∧ 0 ≤ i') := by
  refine oG Tryz.func39 ⟨?_⟩
  repeat' (first | ((with_reducible refine fun (K1 : KT) hK => ?_); conv => whnf) | ((with_reducible show K1 _ _); subst hK; conv => whnf) | (with_reducible exact rfl) | ((with_reducible refine sp_e (fun h => ?_) (fun h => ?_)) <;> first | contradiction | (subst h; conv => whnf) | (conv => whnf)) | (refine ⟨(rfl : d7 _ = true), rfl, ?_⟩; conv => whnf) | ((with_reducible refine a8 (g := 34) ?_); refine ⟨_, _, sH (hi := ?_) (hl := asmR) .., fun res B hRB => ?_⟩; rotate_right; obtain ⟨x, i', g', rfl, rfl, hx, hi'⟩ := hRB; conv => whnf) | ((with_reducible show w5 _ _ _ _ _ _); conv => whnf) | (intro h; conv => whnf))
  all_goals repeat clear hK K1
  all_goals first | (with_reducible assumption) | exact ⟨_, _, _, rfl, rfl, by with_reducible assumption⟩ | omega | skip
def plI (w : Int) (y : V.Ins) : Prop := ∀ size, u6 y w size = true
theorem ra1 {x : Int} (hx : 0 ≤ x ∧ x ≤ 255 ∧ ((0 : Int) < 2 → x < 2)) : 0 ≤ IntKind.i64.wrap (1 + x) ∧ IntKind.i64.wrap (1 + x) ≤ 255 ∧ ((0 : Int) < 4 → IntKind.i64.wrap (1 + x) < 4) := by
  rw [u4 omG omG]; omega
theorem ra2 {x : Int} (hx : 0 ≤ x ∧ x ≤ 255 ∧ ((0 : Int) < 3 → x < 3)) : 0 ≤ IntKind.i64.wrap (1 + x) ∧ IntKind.i64.wrap (1 + x) ≤ 255 ∧ ((0 : Int) < 4 → IntKind.i64.wrap (1 + x) < 4) := by
  rw [u4 omG omG]; omega
theorem ra3 : (0 : Int) ≤ 3 ∧ (3 : Int) ≤ 255 ∧ ((0 : Int) < 4 → (3 : Int) < 4) := by omega
theorem ra0 : (0 : Int) ≤ 0 ∧ (0 : Int) ≤ 255 ∧ ((0 : Int) < 4 → (0 : Int) < 4) := by omega
theorem mk3P {a b w size x : Int} (ha : 0 ≤ a ∧ a ≤ 255 ∧ ((0 : Int) < 4 → a < 4)) (hb : 0 ≤ b ∧ b ≤ 255 ∧ ((0 : Int) < 4 → b < 4)) (hx : x ∈ ([3, 4, 8, 9, 10, 14, 15] : List Int)) : u6 ⟨3, a, b, x⟩ w size = true := by
  have hx' : 3 ≤ x ∧ x ≤ 16 := by simp at hx; omega
  simp [u6, regP, inP]; omega
theorem qai (b : List Int) (i g w : Int) (hi : 0 ≤ i) (hl : b.length ≤ maxLen) (hw : inP w 1 16 = true) : CallsG Tryz.prog 35 [.ptr 0 0, .dat (.i w)] [.box [.dat (.seq .bytes b), .dat (.i i), .dat (.i g)]] 1 (fun res B => ∃ op a c d i' g' : Int, res = .agg [.dat (.i op), .dat (.i a), .dat (.i c), .dat (.i d)] ∧ B = [.box [.dat (.seq .bytes b), .dat (.i i'), .dat (.i g')]] ∧ plI w ⟨op, a, c, d⟩ ∧ 0 ≤ i') := by
  refine oG Tryz.func35 ⟨?_⟩
  repeat' (first | ((with_reducible refine fun (K1 : KT) hK => ?_); conv => whnf) | ((with_reducible show K1 _ _); subst hK; conv => whnf) | (with_reducible exact rfl) | ((with_reducible refine sp_e (fun h => ?_) (fun h => ?_)) <;> first | contradiction | (subst h; conv => whnf) | (conv => whnf)) | (refine ⟨(rfl : d7 _ = true), rfl, ?_⟩; conv => whnf) | ((with_reducible refine a8 (g := 34) ?_); refine ⟨_, _, sH (hi := ?_) (hl := asmR) .., fun res B hRB => ?_⟩; rotate_right; obtain ⟨x, i', g', rfl, rfl, hx, hi'⟩ := hRB; conv => whnf) | ((with_reducible first | refine g0 (g := 8) ?_ | show Exists _); refine ⟨_, iJ .., rfl, ?_⟩; rotate_right; conv => whnf) | ((with_reducible refine a8 (g := 36) ?_); refine ⟨_, _, kT (hi := ?_) (hl := asmR) (h1 := ?_) .., fun res B hRB => ?_⟩; rotate_right; obtain ⟨x, i', g', rfl, rfl, hm, hi'⟩ := hRB; conv => whnf) | ((with_reducible show w5 _ _ _ _ _ _); conv => whnf) | (intro h; conv => whnf))
  all_goals repeat clear hK K1
  all_goals first | (with_reducible assumption) | (refine ⟨_, _, _, _, _, _, rfl, rfl, fun size => ?_, by with_reducible assumption⟩; first | exact mk1 (ra1 asmR) hw | exact mk2 (by decide) (ra1 asmR) (ra2 asmR) | exact mk3P (ra1 asmR) (ra2 asmR) asmR | exact mk4 (by decide) (ra1 asmR) | exact mk4 (by decide) ra3) | exact Nat.succ_pos _ | omega | skip
structure LpA (w mem inn one i k : Int) (code : List V.Ins) : Prop where
  hw : 2 ≤ w ∧ w ≤ 3
  hm : 1 ≤ mem ∧ mem ≤ 2
  hn : 0 ≤ inn ∧ inn ≤ 1
  ho : 0 ≤ one ∧ one ≤ 2
  hi : 0 ≤ i
  hk : 0 ≤ k ∧ (code.length : Int) + k ≤ 4
  hc : ∀ y ∈ code, plI w y
structure LpB (w mem inn one i h k : Int) (code : List V.Ins) : Prop where
  hw : 2 ≤ w ∧ w ≤ 3
  hm : 1 ≤ mem ∧ mem ≤ 2
  hn : 0 ≤ inn ∧ inn ≤ 1
  ho : 0 ≤ one ∧ one ≤ 2
  hi : 0 ≤ i
  hh : 0 ≤ h ∧ h < code.length
  hk : 0 ≤ k ∧ (code.length : Int) + k ≤ 7
  hc : ∀ y ∈ code, plI w y ∨ y = ⟨10, one, 0, 0⟩
  hz : code.getD h.toNat K.inss.dflt = ⟨10, one, 0, 0⟩
theorem mH {x : Int} (hx : 0 ≤ x ∧ x ≤ 255 ∧ ((0 : Int) < 2 → x < 2)) : 2 ≤ IntKind.i64.wrap (2 + x) ∧ IntKind.i64.wrap (2 + x) ≤ 3 := by rw [u4 omG omG]; omega
theorem lp_m {x : Int} (hx : 0 ≤ x ∧ x ≤ 255 ∧ ((0 : Int) < 2 → x < 2)) : 1 ≤ IntKind.i64.wrap (1 + x) ∧ IntKind.i64.wrap (1 + x) ≤ 2 := by rw [u4 omG omG]; omega
theorem gN {w : Int} (h : 2 ≤ w ∧ w ≤ 3) : inP w 1 16 = true := by simp [inP]; omega
theorem bQ {w size : Int} (h : 2 ≤ w ∧ w ≤ 3) : u6 ⟨1, 3, 1, 0⟩ w size = true := by
  have : w = 2 ∨ w = 3 := by omega
  rcases this with rfl | rfl <;> simp [u6, regP, inP, wordP]
theorem lpA_0 {w mem x3 x4 i k : Int} {y1 y2 : V.Ins} {code : List V.Ins} (hw : 2 ≤ w ∧ w ≤ 3) (hm : 1 ≤ mem ∧ mem ≤ 2) (h3 : 0 ≤ x3 ∧ x3 ≤ 255 ∧ ((0 : Int) < 2 → x3 < 2)) (h4 : 0 ≤ x4 ∧ x4 ≤ 255 ∧ ((0 : Int) < 3 → x4 < 3)) (hi : 0 ≤ i)
    (hk : 0 ≤ k ∧ k ≤ 255 ∧ ((0 : Int) < 3 → k < 3)) (hc : code = [y1, y2]) (h1 : plI w y1) (h2 : plI w y2) : LpA w mem x3 x4 i k code := by
  subst hc
  refine ⟨hw, hm, by omega, by omega, hi, ⟨hk.1, ?_⟩, fun y hy => ?_⟩
  · show (2 : Int) + k ≤ 4; omega
  · simp only [List.mem_cons, List.not_mem_nil, or_false] at hy
    rcases hy with rfl | rfl <;> assumption
theorem lpA_1 {w mem inn one i i' k : Int} {y : V.Ins} {code : List V.Ins} (h : LpA w mem inn one i k code) (hk : k > 0) (hi : 0 ≤ i') (hy : plI w y) : LpA w mem inn one i' (IntKind.i64.wrap (k - 1)) (code ++ [y]) := by
  have h1 := h.hk
  refine ⟨h.hw, h.hm, h.hn, h.ho, hi, ?_, fun z hz => ?_⟩
  · rw [u4 omG omG, List.length_append]; simp; omega
  · rcases List.mem_append.1 hz with e | e
    · exact h.hc z e
    · rw [List.mem_singleton.1 e]; exact hy
theorem gd_l {code tl : List V.Ins} {h : Int} (hh : 0 ≤ h ∧ h < code.length) : (code ++ tl).getD h.toNat K.inss.dflt = code.getD h.toNat K.inss.dflt := by
  rw [List.getD_eq_getElem?_getD, List.getD_eq_getElem?_getD, List.getElem?_append_left omG]
theorem lpB_0 {w mem inn one i i' k k' : Int} {code : List V.Ins} (h : LpA w mem inn one i k code) (hi : 0 ≤ i') (hk : 0 ≤ k' ∧ k' ≤ 255 ∧ ((0 : Int) < 3 → k' < 3)) : LpB w mem inn one i' code.length k' (code ++ [⟨10, one, 0, 0⟩]) := by
  have h1 := h.hk
  refine ⟨h.hw, h.hm, h.hn, h.ho, hi, ?_, ?_, fun z hz => ?_, ?_⟩
  · rw [List.length_append]; simp; omega
  · rw [List.length_append]; simp; omega
  · rcases List.mem_append.1 hz with e | e
    · exact .inl (h.hc z e)
    · exact .inr (List.mem_singleton.1 e)
  · rw [Int.toNat_natCast, List.getD_eq_getElem?_getD, List.getElem?_append_right (Nat.le_refl _), Nat.sub_self]; rfl
theorem lpB_1 {w mem inn one i i' hd k : Int} {y : V.Ins} {code : List V.Ins} (h : LpB w mem inn one i hd k code) (hk : k > 0) (hi : 0 ≤ i') (hy : plI w y) : LpB w mem inn one i' hd (IntKind.i64.wrap (k - 1)) (code ++ [y]) := by
  have h1 := h.hk; have h2 := h.hh
  refine ⟨h.hw, h.hm, h.hn, h.ho, hi, ?_, ?_, fun z hz => ?_, ?_⟩
  · rw [List.length_append]; simp; omega
  · rw [u4 omG omG, List.length_append]; simp; omega
  · rcases List.mem_append.1 hz with e | e
    · exact h.hc z e
    · rw [List.mem_singleton.1 e]; exact .inl hy
  · rw [gd_l h2]; exact h.hz
theorem lpA_mu {w mem inn one i k : Int} {code : List V.Ins} (h : LpA w mem inn one i k code) (hk : k > 0) : (IntKind.i64.wrap (k - 1)).toNat < k.toNat := by
  have h1 := h.hk
  rw [u4 omG omG]; omega
theorem lpB_mu {w mem inn one i hd k : Int} {code : List V.Ins} (h : LpB w mem inn one i hd k code) (hk : k > 0) : (IntKind.i64.wrap (k - 1)).toNat < k.toNat := by
  have h1 := h.hk
  rw [u4 omG omG]; omega
theorem iN {w mem inn one i hd k : Int} {code : List V.Ins} (h : LpB w mem inn one i hd k code) : code.length ≤ 7 := by have := h.hk; omega
theorem fM {l' code : List V.Ins} {a b y : V.Ins} {k : Nat} (h : l' = (code ++ [a, b]).set k y) : l'.length = code.length + 2 := by rw [h, List.length_set, List.length_append]; rfl
theorem cap_m {A B : List V.Ins} (hA : A.length ≤ 20) (hB : B.length ≤ 2) : A.length + B.length ≤ maxLen := by have : maxLen = 9223372036854775807 := rfl; omega
theorem cap_b {A B : List V.Ins} (hA : A.length ≤ 20) (hB : B.length ≤ 2) : (A.length + B.length) * ty66.bytes ≤ 140737488355328 := by show (A.length + B.length) * 32 ≤ 140737488355328; omega
theorem gS {w mem inn one i k : Int} {code : List V.Ins} (h : LpA w mem inn one i k code) : code.length ≤ 20 := by have := h.hk; omega
theorem fS {w mem inn one i hd k : Int} {code : List V.Ins} (h : LpB w mem inn one i hd k code) : code.length ≤ 20 := by have := h.hk; omega
theorem dQ {w mem inn one i hd k : Int} {l' code : List V.Ins} {a b y : V.Ins} {n : Nat} (h : l' = (code ++ [a, b]).set n y) (hI : LpB w mem inn one i hd k code) : l'.length ≤ 20 := by have := iN hI; have := fM h; omega
theorem cQ {w mem inn one i hd k : Int} {l' code : List V.Ins} {a b y z : V.Ins} {n : Nat} (h : l' = (code ++ [a, b]).set n y) (hI : LpB w mem inn one i hd k code) : (l' ++ [z]).length ≤ 20 := by have := iN hI; have := fM h; simp; omega
theorem dS {w mem inn one i hd k t : Int} {code l' tail : List V.Ins} {a b z : V.Ins} {n : Nat} (hI : LpB w mem inn one i hd k code) (h : l' = (code ++ [a, b]).set n z) (ha : plI w a) (hb : b = ⟨9, 0, hd, 0⟩) (hz : z = ⟨10, one, t, 0⟩)
    (ht : 0 ≤ t ∧ t ≤ (code.length : Int) + 2) (htl : ∀ y ∈ tail, plI w y) (hl : tail.length ≤ 2) : progP ⟨w, mem, inn, l' ++ tail⟩ = true := by
  have hlen := fM h
  have h7 := iN hI
  have hh := hI.hh
  have hL : (l' ++ tail).length = code.length + 2 + tail.length := by rw [List.length_append, hlen]
  have hwm : wordP w mem = true := by
    have q1 := hI.hw; have q2 := hI.hm
    have : w = 2 ∨ w = 3 := by omega
    have : mem = 1 ∨ mem = 2 := by omega
    rcases ‹w = 2 ∨ w = 3› with rfl | rfl <;> rcases ‹mem = 1 ∨ mem = 2› with rfl | rfl <;> decide
  have hone : 0 ≤ one ∧ one ≤ 255 ∧ ((0 : Int) < 4 → one < 4) := by have := hI.ho; omega
  have hall : ∀ y ∈ l' ++ tail, u6 y w ((l' ++ tail).length : Nat) = true := by
    intro y hy
    rcases List.mem_append.1 hy with e | e
    · rw [h] at e
      rcases List.mem_or_eq_of_mem_set e with e | e
      · rcases List.mem_append.1 e with e | e
        · rcases hI.hc y e with q | q
          · exact q _
          · rw [q]; exact mk10 hone omG
        · simp only [List.mem_cons, List.not_mem_nil, or_false] at e
          rcases e with rfl | rfl
          · exact ha _
          · rw [hb]; exact mk9 (by decide) (by rw [hL]; omega)
      · rw [e, hz]; exact mk10 hone (by rw [hL]; omega)
    · exact htl y e _
  unfold progP
  simp only [Bool.and_eq_true, List.all_eq_true]
  have q1 := hI.hw; have q2 := hI.hm; have q3 := hI.hn
  refine ⟨⟨⟨⟨⟨?_, ?_⟩, hwm⟩, ?_⟩, ?_⟩, hall⟩
  · simp [inP]; omega
  · simp [inP]; omega
  · simp [inP]; omega
  · have e : ((l' ++ tail).length : Int) = code.length + 2 + tail.length := by rw [hL]; omega
    rw [e]; simp [inP]; omega
section
variable {w mem inn one i hd k x c : Int} {code l' : List V.Ins}
abbrev lpJ (one hd x : Int) (code : List V.Ins) : List V.Ins := code ++ [⟨3, one, 3, x⟩, ⟨9, 0, hd, 0⟩]
theorem lp_l (hI : LpB w mem inn one i hd k code) (h : l' = (lpJ one hd x code).set hd.toNat ⟨((lpJ one hd x code).getD hd.toNat K.inss.dflt).op, ((lpJ one hd x code).getD hd.toNat K.inss.dflt).a, ((lpJ one hd x code).length : Nat), ((lpJ one hd x code).getD hd.toNat K.inss.dflt).c⟩) :
    l' = (lpJ one hd x code).set hd.toNat ⟨10, one, (code.length : Int) + 2, 0⟩ := by
  rw [show (lpJ one hd x code).getD hd.toNat K.inss.dflt = code.getD hd.toNat K.inss.dflt from gd_l hI.hh, hI.hz] at h
  rw [h, show (lpJ one hd x code).length = code.length + 2 from List.length_append]; rfl
theorem eS (hI : LpB w mem inn one i hd k code) (hm : x ∈ ([4, 4, 3, 12] : List Int)) : plI w ⟨3, one, 3, x⟩ := by
  intro size
  have hx' : 3 ≤ x ∧ x ≤ 16 := by simp at hm; omega
  have := hI.ho
  simp [u6, regP, inP]; omega
theorem lp_fin1 (hI : LpB w mem inn one i hd k code) (h : l' = (lpJ one hd x code).set hd.toNat ⟨((lpJ one hd x code).getD hd.toNat K.inss.dflt).op, ((lpJ one hd x code).getD hd.toNat K.inss.dflt).a, ((lpJ one hd x code).length : Nat), ((lpJ one hd x code).getD hd.toNat K.inss.dflt).c⟩) (hm : x ∈ ([4, 4, 3, 12] : List Int)) :
    progP ⟨w, mem, inn, l' ++ [⟨14, 0, 0, 0⟩]⟩ = true := by
  refine dS hI (lp_l hI h) (eS hI hm) rfl rfl omG (fun y hy => ?_) (by decide)
  rw [List.mem_singleton.1 hy]; exact fun _ => rfl
theorem lp_fin2 (hI : LpB w mem inn one i hd k code) (h : l' = (lpJ one hd x code).set hd.toNat ⟨((lpJ one hd x code).getD hd.toNat K.inss.dflt).op, ((lpJ one hd x code).getD hd.toNat K.inss.dflt).a, ((lpJ one hd x code).length : Nat), ((lpJ one hd x code).getD hd.toNat K.inss.dflt).c⟩) (hm : x ∈ ([4, 4, 3, 12] : List Int))
    (hc : 0 ≤ c ∧ c ≤ 255 ∧ ((0 : Int) < 4 → c < 4)) : progP ⟨w, mem, inn, (l' ++ [⟨13, c, 0, 0⟩]) ++ [⟨14, 0, 0, 0⟩]⟩ = true := by
  rw [List.append_assoc]
  refine dS hI (lp_l hI h) (eS hI hm) rfl rfl omG (fun y hy => ?_) (Nat.le_refl 2)
  simp only [List.cons_append, List.nil_append, List.mem_cons, List.not_mem_nil, or_false] at hy
  rcases hy with rfl | rfl
  · exact fun _ => mk4 (by decide) hc
  · exact fun _ => rfl
end
theorem qag (b : List Int) (i g : Int) (hi : 0 ≤ i) (hl : b.length ≤ maxLen) : CallsG Tryz.prog 14 [.ptr 0 0] [.box [.dat (.seq .bytes b), .dat (.i i), .dat (.i g)]] 1 (fun res B => ∃ (w mem inn hd i' g' : Int) (code : List V.Ins), res = .tup [.agg [.dat (.i w), .dat (.i mem), .dat (.i inn), .row 1], .dat (.i hd)] ∧ B = [.box [.dat (.seq .bytes b), .dat (.i i'), .dat (.i g')], .row 66 .inss code false] ∧ progP ⟨w, mem, inn, code⟩ = true ∧ 0 ≤ i') := by
  refine oG Tryz.func14 ⟨?_⟩
  repeat' (first | ((with_reducible refine fun (K1 : KT) hK => ?_); conv => whnf) | ((with_reducible show K1 _ _); subst hK; conv => whnf) | (with_reducible exact rfl) | ((with_reducible refine sp_d (fun h => ?_) (fun h => ?_)) <;> first | contradiction | (subst h; conv => whnf) | (conv => whnf)) | ((with_reducible refine sp_b (fun h => ?_) (fun h => ?_)) <;> first | (exact fF h asmR) | (exact fF asmR h) | (conv => whnf)) | (refine ⟨(rfl : d7 _ = true), rfl, ?_⟩; conv => whnf) | (with_reducible refine bnd2 ?_ ?_) | (with_reducible refine bndN ?_ ?_) | refine u2 ⟨?_⟩ ⟨?_⟩ | (refine Exists.intro ({x : (Int × Int × Int) × (Int × Int × Int) × Int × List V.Ins // LpA x.1.1 x.1.2.1 x.1.2.2 x.2.1.1 x.2.1.2.1 x.2.2.1 x.2.2.2}) (Exists.intro (fun ⟨⟨⟨w, mem, inn⟩, ⟨one, i, g⟩, k, code⟩, hI⟩ => z7 Tryz.f14.ntmps [(0, .ptr 900000 0), (2, .ptr 2 0), (4, .ptr 4 0), (5, .dat (.i one)), (6, .row 106), (7, .dat (.i k))] [(900000, .box [.dat (.seq .bytes b), .dat (.i i), .dat (.i g)]), (2, .box [.cell, .cell, .cell, .cell]), (4, .box [.dat (.i w), .dat (.i mem), .dat (.i inn), .cell]), (106, .row 66 .inss code false)]) (Exists.intro (fun ⟨⟨⟨w, mem, inn⟩, ⟨one, i, g⟩, k, code⟩, hI⟩ => k.toNat) (Exists.intro ⟨⟨⟨?_, ?_, ?_⟩, ⟨?_, ?_, ?_⟩, ?_, ?_⟩, ?_⟩ (And.intro (SubP.sub (σ := [(900000, some 900000), (2, some 2), (4, some 4), (106, some 41)]) ⟨⟨rfl, rfl, rfl⟩, ⟨⟨rfl, rfl⟩, ⟨rfl, rfl⟩, ⟨rfl, rfl⟩, r0 ?_, rfl, r0 ?_, trivial⟩, ⟨⟨j0 ?_, j0 ?_, j0 ?_, trivial⟩, ⟨rfl, rfl, rfl, rfl, trivial⟩, ⟨j0 ?_, j0 ?_, j0 ?_, rfl, trivial⟩, ⟨⟨rfl, rfl⟩, ?_⟩, trivial⟩⟩) (fun ⟨⟨⟨w, mem, inn⟩, ⟨one, i, g⟩, k, code⟩, hI⟩ => ?_))))); rotate_right; conv => whnf) | (refine Exists.intro (⟨⟨⟨w, mem, inn⟩, ⟨one, ?_, ?_⟩, ?_, ?_⟩, ?_⟩ : {x : (Int × Int × Int) × (Int × Int × Int) × Int × List V.Ins // LpA x.1.1 x.1.2.1 x.1.2.2 x.2.1.1 x.2.1.2.1 x.2.2.1 x.2.2.2}) (And.intro ?_ (SubP.sub (σ := [(900000, some 900000), (2, some 2), (4, some 4), (106, some 59)]) ⟨⟨rfl, rfl, rfl⟩, ⟨⟨rfl, rfl⟩, ⟨rfl, rfl⟩, ⟨rfl, rfl⟩, r0 ?_, rfl, r0 ?_, trivial⟩, ⟨⟨j0 ?_, j0 ?_, j0 ?_, trivial⟩, ⟨rfl, rfl, rfl, rfl, trivial⟩, ⟨j0 ?_, j0 ?_, j0 ?_, rfl, trivial⟩, ⟨⟨rfl, rfl⟩, ?_⟩, trivial⟩⟩))) | (refine Exists.intro ({x : (Int × Int × Int) × (Int × Int × Int) × (Int × Int) × List V.Ins // LpB x.1.1 x.1.2.1 x.1.2.2 x.2.1.1 x.2.1.2.1 x.2.2.1.1 x.2.2.1.2 x.2.2.2}) (Exists.intro (fun ⟨⟨⟨w, mem, inn⟩, ⟨one, i, g⟩, ⟨hd, k⟩, code⟩, hI⟩ => z7 Tryz.f14.ntmps [(0, .ptr 900000 0), (2, .ptr 2 0), (4, .ptr 4 0), (5, .dat (.i one)), (6, .row 106), (8, .dat (.i hd)), (9, .dat (.i k))] [(900000, .box [.dat (.seq .bytes b), .dat (.i i), .dat (.i g)]), (2, .box [.cell, .cell, .cell, .cell]), (4, .box [.dat (.i w), .dat (.i mem), .dat (.i inn), .cell]), (106, .row 66 .inss code false)]) (Exists.intro (fun ⟨⟨⟨w, mem, inn⟩, ⟨one, i, g⟩, ⟨hd, k⟩, code⟩, hI⟩ => k.toNat) (Exists.intro ⟨⟨⟨?_, ?_, ?_⟩, ⟨?_, ?_, ?_⟩, ⟨?_, ?_⟩, ?_⟩, ?_⟩ (And.intro (SubP.sub (σ := [(900000, some 900000), (2, some 2), (4, some 4), (106, some 66)]) ⟨⟨rfl, rfl, rfl⟩, ⟨⟨rfl, rfl⟩, ⟨rfl, rfl⟩, ⟨rfl, rfl⟩, r0 ?_, rfl, r0 ?_, r0 ?_, trivial⟩, ⟨⟨j0 ?_, j0 ?_, j0 ?_, trivial⟩, ⟨rfl, rfl, rfl, rfl, trivial⟩, ⟨j0 ?_, j0 ?_, j0 ?_, rfl, trivial⟩, ⟨⟨rfl, rfl⟩, ?_⟩, trivial⟩⟩) (fun ⟨⟨⟨w, mem, inn⟩, ⟨one, i, g⟩, ⟨hd, k⟩, code⟩, hI⟩ => ?_))))); rotate_right; conv => whnf) | (refine Exists.intro (⟨⟨⟨w, mem, inn⟩, ⟨one, ?_, ?_⟩, ⟨hd, ?_⟩, ?_⟩, ?_⟩ : {x : (Int × Int × Int) × (Int × Int × Int) × (Int × Int) × List V.Ins // LpB x.1.1 x.1.2.1 x.1.2.2 x.2.1.1 x.2.1.2.1 x.2.2.1.1 x.2.2.1.2 x.2.2.2}) (And.intro ?_ (SubP.sub (σ := [(900000, some 900000), (2, some 2), (4, some 4), (106, some 79)]) ⟨⟨rfl, rfl, rfl⟩, ⟨⟨rfl, rfl⟩, ⟨rfl, rfl⟩, ⟨rfl, rfl⟩, r0 ?_, rfl, r0 ?_, r0 ?_, trivial⟩, ⟨⟨j0 ?_, j0 ?_, j0 ?_, trivial⟩, ⟨rfl, rfl, rfl, rfl, trivial⟩, ⟨j0 ?_, j0 ?_, j0 ?_, rfl, trivial⟩, ⟨⟨rfl, rfl⟩, ?_⟩, trivial⟩⟩))) | ((with_reducible refine a8 (g := 34) ?_); refine ⟨_, _, sH (hi := ?_) (hl := asmR) .., fun res B hRB => ?_⟩; rotate_right; obtain ⟨x, i', g', rfl, rfl, hx, hi'⟩ := hRB; conv => whnf) | ((with_reducible first | refine g0 (g := 8) ?_ | show Exists _); refine ⟨_, iJ .., rfl, ?_⟩; rotate_right; conv => whnf) | ((with_reducible refine a8 (g := 35) ?_); refine ⟨_, _, qai (hi := ?_) (hl := asmR) (hw := ?_) .., fun res B hRB => ?_⟩; rotate_right; obtain ⟨op, a, c, d, i', g', rfl, rfl, hpl, hi'⟩ := hRB; conv => whnf) | ((with_reducible refine a8 (g := 36) ?_); refine ⟨_, _, kT (hi := ?_) (hl := asmR) (h1 := ?_) .., fun res B hRB => ?_⟩; rotate_right; obtain ⟨x, i', g', rfl, rfl, hm, hi'⟩ := hRB; conv => whnf) | ((with_reducible refine a8 (g := 37) ?_); refine ⟨_, _, lT (hi := ?_) (hl := asmR) .., fun res B hRB => ?_⟩; rotate_right; obtain ⟨x, i', g', rfl, rfl, hi'⟩ := hRB; conv => whnf) | ((with_reducible show w5 _ _ _ _ _ _); conv => whnf) | (intro h; conv => whnf))
  all_goals repeat clear hK K1
  all_goals first | (with_reducible assumption) | (with_reducible rfl) | exact hI.hi | exact lpA_0 (mH asmR) (lp_m asmR) asmR asmR asmR asmR rfl (fun _ => mk4 (by decide) ra0) (fun _ => bQ (mH asmR)) | exact lpA_0 (mH asmR) (lp_m asmR) asmR asmR asmR asmR rfl (fun _ => mk1 ra0 (gN (mH asmR))) (fun _ => bQ (mH asmR)) | exact lpA_1 hI asmR asmR (fun _ => mk1 (ra1 asmR) (gN hI.hw)) | exact lpB_0 hI asmR asmR | exact lpB_1 hI asmR asmR asmR | exact lpA_mu hI asmR | exact lpB_mu hI asmR | exact ⟨_, _, _, _, _, _, _, rfl, rfl, lp_fin2 hI (by assumption) asmR asmR, by with_reducible assumption⟩ | exact ⟨_, _, _, _, _, _, _, rfl, rfl, lp_fin1 hI (by assumption) asmR, by with_reducible assumption⟩ | exact gN hI.hw | exact Nat.succ_pos _ | exact hI.hh.1 | ((with_reducible refine cap_m ?_ ?_); (first | exact gS hI | exact fS hI | exact Nat.zero_le _ | exact dQ (by assumption) hI | exact cQ (by assumption) hI | exact (by decide : 1 ≤ 20)); (first | exact Nat.le.refl | exact Nat.le.step Nat.le.refl)) | ((with_reducible refine cap_b ?_ ?_); (first | exact gS hI | exact fS hI | exact Nat.zero_le _ | exact dQ (by assumption) hI | exact cQ (by assumption) hI | exact (by decide : 1 ≤ 20)); (first | exact Nat.le.refl | exact Nat.le.step Nat.le.refl)) | ((with_reducible show hd.toNat < _); show hd.toNat < List.length (code ++ [_, _]); have q : 0 ≤ hd ∧ hd < code.length := hI.hh; rw [List.length_append]; omega) | ((with_reducible show hd < _); show hd < ((List.length (code ++ [_, _]) : Nat) : Int); have q : 0 ≤ hd ∧ hd < code.length := hI.hh; rw [List.length_append]; omega) | skip
theorem qa5 (b : List Int) (n : Int) (hn : 0 ≤ n) (hl : b.length ≤ maxLen) : CallsF Tryz.prog 4 [.dat (.seq .bytes b), .dat (.i n)] true (fun res B => ∃ (w mem inn hd : Int) (code : List V.Ins), res = .tup [.agg [.dat (.i w), .dat (.i mem), .dat (.i inn), .row 0], .dat (.i hd)] ∧ B = [.row 66 .inss code false] ∧ progP ⟨w, mem, inn, code⟩ = true) := by
  refine oF Tryz.func4 ⟨?_⟩
  repeat' (first | ((with_reducible refine fun (K1 : KT) hK => ?_); conv => whnf) | ((with_reducible show K1 _ _); subst hK; conv => whnf) | (with_reducible exact rfl) | (refine ⟨(rfl : d7 _ = true), rfl, ?_⟩; conv => whnf) | ((with_reducible refine a8 (g := 14) ?_); refine ⟨_, _, qag (hi := ?_) (hl := asmR) .., fun res B hRB => ?_⟩; rotate_right; obtain ⟨w, mem, inn, hd, i', g', code, rfl, rfl, hn, hi'⟩ := hRB; conv => whnf) | ((with_reducible refine vB (g := 15) ?_); refine ⟨_, _, mO (hl := ?_) .., rfl, zV ?_⟩; rotate_right; conv => whnf) | ((with_reducible show w5 _ _ _ _ _ _); conv => whnf) | (intro h; conv => whnf))
  all_goals repeat clear hK K1
  all_goals first | (with_reducible assumption) | exact nI hn | exact ⟨_, _, _, _, _, rfl, rfl, by with_reducible assumption⟩ | skip
theorem qa6 (b : List Int) (n : Int) (hn : 0 ≤ n) (hl : b.length ≤ maxLen) : CallsF Tryz.prog 4 [.dat (.seq .bytes b), .dat (.i n)] true (fun res B => (∃ (w mem inn hd : Int) (code : List V.Ins), res = .tup [.agg [.dat (.i w), .dat (.i mem), .dat (.i inn), .dat (.seq .inss code)], .dat (.i hd)] ∧ progP ⟨w, mem, inn, code⟩ = true) ∧ B = []) :=
  (qa5 b n hn hl).toE (Q := fun res => ∃ (w mem inn hd : Int) (code : List V.Ins), res = .tup [.agg [.dat (.i w), .dat (.i mem), .dat (.i inn), .dat (.seq .inss code)], .dat (.i hd)] ∧ progP ⟨w, mem, inn, code⟩ = true) fun res B' ⟨w, mem, inn, hd, code, h1, h2, h3⟩ => ⟨_, ⟨w, mem, inn, hd, code, rfl, h3⟩, by subst h1 h2; exact ⟨⟨rfl, rfl, rfl, rfl, trivial⟩, rfl, trivial⟩⟩
theorem qah (b : List Int) (i g w : Int) (hi : 0 ≤ i) (hl : b.length ≤ maxLen) : CallsG Tryz.prog 16 [.ptr 0 0, .dat (.i w)] [.box [.dat (.seq .bytes b), .dat (.i i), .dat (.i g)]] 1 (fun res B => ∃ k a c n i' g' : Int, res = .agg [.dat (.i k), .dat (.i a), .dat (.i c), .dat (.i n)] ∧ B = [.box [.dat (.seq .bytes b), .dat (.i i'), .dat (.i g')]] ∧ 0 ≤ i') := by
  refine oG Tryz.func16 ⟨?_⟩
  repeat' (first | ((with_reducible refine fun (K1 : KT) hK => ?_); conv => whnf) | ((with_reducible show K1 _ _); subst hK; conv => whnf) | (with_reducible exact rfl) | ((with_reducible refine sp_T ?_); conv => whnf) | ((with_reducible refine sp_F ?_); conv => whnf) | ((with_reducible refine sp_e (fun h => ?_) (fun h => ?_)) <;> first | contradiction | (subst h; conv => whnf) | (conv => whnf)) | ((with_reducible refine sp_n (fun h => ?_) (fun h => ?_)) <;> first | contradiction | (subst h; conv => whnf) | (conv => whnf)) | ((with_reducible refine sp_b (fun h => ?_) (fun h => ?_)) <;> first | (exact fF h asmR) | (exact fF asmR h) | (conv => whnf)) | (refine ⟨(rfl : d7 _ = true), rfl, ?_⟩; conv => whnf) | ((with_reducible refine a8 (g := 34) ?_); refine ⟨_, _, sH (hi := ?_) (hl := asmR) .., fun res B hRB => ?_⟩; rotate_right; obtain ⟨x, i', g', rfl, rfl, hx, hi'⟩ := hRB; conv => whnf) | ((with_reducible first | refine g0 (g := 24) ?_ | show Exists _); refine ⟨_, yD .., rfl, ?_⟩; rotate_right; conv => whnf) | ((with_reducible first | refine g0 (g := 8) ?_ | show Exists _); refine ⟨_, iJ .., rfl, ?_⟩; rotate_right; conv => whnf) | ((with_reducible refine a8 (g := 37) ?_); refine ⟨_, _, lT (hi := ?_) (hl := asmR) .., fun res B hRB => ?_⟩; rotate_right; obtain ⟨x, i', g', rfl, rfl, hi'⟩ := hRB; conv => whnf) | ((with_reducible refine a8 (g := 39) ?_); refine ⟨_, _, qaj (hi := ?_) (hl := asmR) .., fun res B hRB => ?_⟩; rotate_right; obtain ⟨x, i', g', rfl, rfl, hi'⟩ := hRB; conv => whnf) | ((with_reducible show w5 _ _ _ _ _ _); conv => whnf) | (intro h; conv => whnf))
  all_goals repeat clear hK K1
  all_goals first | (with_reducible assumption) | exact ⟨_, _, _, _, _, _, rfl, rfl, by with_reducible assumption⟩ | omega | skip
theorem aU {a c : Bool} (h : (a && c) = true) : c = true := by simp at h; exact h.2
structure GivF (i : Int) (k : Nat) : Prop where
  hi : 0 ≤ i
  hk : k ≤ 20
theorem givF_0 {i : Int} (h : 0 ≤ i) : GivF i 0 := ⟨h, by decide⟩
theorem givF_1 {i' : Int} {k : Nat} (h : 0 ≤ i') (hk : (k : Int) < 20) : GivF i' (k + 1) := ⟨h, by omega⟩
theorem word_0 {p : V.Prog} (h : progP p = true) : wordP p.w 0 = true := by
  have hw : inP p.w 1 16 = true := by simp [progP, inP] at h ⊢; omega
  have : (0 : Int) < 2 ^ p.w.toNat := Int.pow_pos (by decide)
  have h2 : inP 0 0 (2 ^ p.w.toNat - 1) = true := by simp [inP]; omega
  unfold wordP
  rw [hw, h2]; rfl
theorem dU {p : V.Prog} (hp : progP p = true) : factP p.w ⟨1, 0, 0, 0⟩ = true := by
  have := word_0 hp
  simp [factP, regP, inP, this]
theorem qa7 (b : List Int) (n w mem inn : Int) (code : List V.Ins) (hn : 0 ≤ n) (hl : b.length ≤ maxLen) : CallsF Tryz.prog 5 [.dat (.seq .bytes b), .dat (.i n), .agg [.dat (.i w), .dat (.i mem), .dat (.i inn), .dat (.seq .inss code)]] true (fun res B => (∃ k a c n : Int, res = .agg [.dat (.i k), .dat (.i a), .dat (.i c), .dat (.i n)] ∧ (progP ⟨w, mem, inn, code⟩ = true → factP w ⟨k, a, c, n⟩ = true)) ∧ B = []) := by
  refine oF Tryz.func5 ⟨?_⟩
  repeat' (first | ((with_reducible refine fun (K1 : KT) hK => ?_); conv => whnf) | ((with_reducible show K1 _ _); subst hK; conv => whnf) | (with_reducible exact rfl) | ((with_reducible refine sp_d (fun h => ?_) (fun h => ?_)) <;> first | contradiction | (subst h; conv => whnf) | (conv => whnf)) | ((with_reducible refine sp_b (fun h => ?_) (fun h => ?_)) <;> first | (exact fF h asmR) | (exact fF asmR h) | (conv => whnf)) | (refine ⟨(rfl : d7 _ = true), rfl, ?_⟩; conv => whnf) | refine u2 ⟨?_⟩ ⟨?_⟩ | (refine Exists.intro ({x : (Int × Int) × Nat // GivF x.1.1 x.2}) (Exists.intro (fun ⟨⟨⟨i, g⟩, k⟩, hI⟩ => z7 Tryz.f5.ntmps [(5, .ptr 5 0), (6, .ptr 6 0), (7, .ptr 7 0), (8, .dat (.i k))] [(5, .box [.dat (.i w), .dat (.i mem), .dat (.i inn), .dat (.seq .inss code)]), (6, .box [.cell, .cell, .cell, .cell]), (7, .box [.dat (.seq .bytes b), .dat (.i i), .dat (.i g)])]) (Exists.intro (fun ⟨⟨⟨i, g⟩, k⟩, hI⟩ => 20 - k) (Exists.intro ⟨⟨⟨?_, ?_⟩, 0⟩, ?_⟩ (And.intro (SubP.sub (σ := [(5, some 5), (6, some 6), (7, some 13000)]) ⟨⟨rfl, rfl, rfl⟩, ⟨⟨rfl, rfl⟩, ⟨rfl, rfl⟩, ⟨rfl, rfl⟩, r0 ?_, trivial⟩, ⟨⟨j0 ?_, j0 ?_, j0 ?_, j0 ?_, trivial⟩, ⟨rfl, rfl, rfl, rfl, trivial⟩, ⟨j0 ?_, j0 ?_, j0 ?_, trivial⟩, trivial⟩⟩) (fun ⟨⟨⟨i, g⟩, k⟩, hI⟩ => ?_))))); rotate_right; conv => whnf) | (refine Exists.intro ⟨⟨⟨?_, ?_⟩, k + 1⟩, ?_⟩ (And.intro ?_ (SubP.sub (σ := [(5, some 5), (6, some 6), (7, some 7)]) ⟨⟨rfl, rfl, rfl⟩, ⟨⟨rfl, rfl⟩, ⟨rfl, rfl⟩, ⟨rfl, rfl⟩, r0 ?_, trivial⟩, ⟨⟨j0 ?_, j0 ?_, j0 ?_, j0 ?_, trivial⟩, ⟨rfl, rfl, rfl, rfl, trivial⟩, ⟨j0 ?_, j0 ?_, j0 ?_, trivial⟩, trivial⟩⟩))) | ((with_reducible refine vB (g := 15) ?_); refine ⟨_, _, mO (hl := ?_) .., rfl, zV ?_⟩; rotate_right; conv => whnf) | ((with_reducible refine a8 (g := 16) ?_); refine ⟨_, _, qah (hi := ?_) (hl := asmR) .., fun res B hRB => ?_⟩; rotate_right; obtain ⟨qk, qa, qc, qn, i', g', rfl, rfl, hi'⟩ := hRB; conv => whnf) | ((with_reducible first | refine g0 (g := 17) ?_ | show Exists _); refine ⟨_, rW .., rfl, ?_⟩; rotate_right; conv => whnf) | ((with_reducible show w5 _ _ _ _ _ _); conv => whnf) | (intro h; conv => whnf))
  all_goals repeat clear hK K1
  all_goals first | (with_reducible assumption) | (with_reducible rfl) | exact nI hn | exact hI.hi | exact givF_0 (nI hn) | exact givF_1 (k := k) asmR asmR | exact ⟨⟨_, _, _, _, rfl, fun hp => dU hp⟩, rfl⟩ | exact ⟨_, _, _, _, rfl, fun hp => dU hp⟩ | exact ⟨_, _, _, _, rfl, fun _ => aU asmR⟩ | exact ⟨⟨_, _, _, _, rfl, fun _ => aU asmR⟩, rfl⟩ | exact (rfl : Dat.i ((0 : Nat) : Int) = Dat.int .i64 0) | exact congrArg (Dat.int .i64) (u4 omG omG).symm | (dsimp only; omega) | omega | skip
end Vg
