/- Programs and inputs that are drawn out of bytes: contracts. Condition: the bytes are not too many. -/
import Derived.Test.YtnjkencoohaheaaExi
import Derived.Test.YtnjkencoohaheaaCur
import Derived.Test.YtnjkencoohaheaaMut
import Derived.Test.YtnjkencoohaheaaRuns
namespace Vg
open Go Go.Proofs
theorem h_l01Below (b : List Int) (i g n : Int) (hi : 0 ≤ i) (hl : b.length ≤ maxLen) : CallsG Try.prog 56 [.ptr 0 0, .dat (.i n)] [.box [.dat (.seq .bytes b), .dat (.i i), .dat (.i g)]] 1
    (fun res B => ∃ x i' g' : Int, res = .dat (.i x) ∧ B = [.box [.dat (.seq .bytes b), .dat (.i i'), .dat (.i g')]] ∧ (0 ≤ x ∧ x ≤ 255 ∧ (0 < n → x < n)) ∧ 0 ≤ i') :=
  (c_l01Below b i g n hi hl).mono fun _ _ ⟨h1, h2⟩ => ⟨_, _, _, h1, h2, belX_r .., belI_0 hi⟩
theorem h_l01Once (b : List Int) (i g n : Int) (hi : 0 ≤ i) (hl : b.length ≤ maxLen) : CallsG Try.prog 55 [.ptr 0 0, .dat (.i n)] [.box [.dat (.seq .bytes b), .dat (.i i), .dat (.i g)]] 1
    (fun res B => ∃ (x : Bool) (i' g' : Int), res = .dat (.bool x) ∧ B = [.box [.dat (.seq .bytes b), .dat (.i i'), .dat (.i g')]] ∧ 0 ≤ i') :=
  (c_l01Once b i g n hi hl).mono fun _ _ ⟨h1, h2⟩ => ⟨_, _, _, h1, h2, belI_0 hi⟩
theorem getD_mem {l : List Int} {x : Int} (h0 : 0 ≤ x) (h : x < l.length) : l.getD x.toNat K.ints.dflt ∈ l := by
  have h' : x.toNat < l.length := by omega
  rw [List.getD_eq_getElem?_getD, List.getElem?_eq_getElem h']
  exact List.getElem_mem h'
set_option maxHeartbeats 1000000 in
set_option maxRecDepth 100000 in
theorem h_l01Pick (b : List Int) (i g : Int) (l : List Int) (hi : 0 ≤ i) (hl : b.length ≤ maxLen) (h1 : 0 < l.length) : CallsG Try.prog 116 [.ptr 0 0, .row 1] [.box [.dat (.seq .bytes b), .dat (.i i), .dat (.i g)], .row 3 .ints l false] 2 (fun res B => ∃ x i' g' : Int, res = .dat (.i x) ∧ B = [.box [.dat (.seq .bytes b), .dat (.i i'), .dat (.i g')], .row 3 .ints l false] ∧ x ∈ l ∧ 0 ≤ i') := by
  refine CallsG.of_awp tauOk mixOk Try.func116 rfl rfl rfl ?_
  conv => whnf
  repeat' (first
    | ((with_reducible refine Alt.l ?_); conv => whnf)
    | ((with_reducible refine fun (K1 : AX → AState → Prop) hK => ?_); conv => whnf)
    | ((with_reducible show K1 _ _); subst hK; conv => whnf)
    | (with_reducible exact rfl)
    | ((with_reducible refine sp_T ?_); conv => whnf)
    | ((with_reducible refine sp_F ?_); conv => whnf)
    | ((with_reducible refine sp_T' ?_); conv => whnf)
    | ((with_reducible refine sp_F' ?_); conv => whnf)
    | ((with_reducible refine sp_dF ?_ ?_); decide; conv => whnf)
    | ((with_reducible refine sp_dT ?_ ?_); decide; conv => whnf)
    | ((with_reducible refine sp_d (fun h => ?_) (fun h => ?_)) <;> first | contradiction | (subst h; conv => whnf) | (conv => whnf))
    | ((with_reducible refine sp_d' (fun h => ?_) (fun h => ?_)) <;> first | contradiction | (subst h; conv => whnf) | (conv => whnf))
    | ((with_reducible refine sp_eF ?_ ?_); decide; conv => whnf)
    | ((with_reducible refine sp_eT ?_); conv => whnf)
    | ((with_reducible refine sp_e (fun h => ?_) (fun h => ?_)) <;> first | contradiction | (subst h; conv => whnf) | (conv => whnf))
    | ((with_reducible refine sp_e' (fun h => ?_) (fun h => ?_)) <;> first | contradiction | (subst h; conv => whnf) | (conv => whnf))
    | ((with_reducible refine sp_n (fun h => ?_) (fun h => ?_)) <;> first | contradiction | (subst h; conv => whnf) | (conv => whnf))
    | ((with_reducible refine sp_n' (fun h => ?_) (fun h => ?_)) <;> first | contradiction | (subst h; conv => whnf) | (conv => whnf))
    | ((with_reducible refine sp_nb (fun h => ?_) (fun h => ?_)) <;> first | (exact Bool.noConfusion (Eq.trans (Eq.symm h) (show _ = true by with_reducible assumption))) | (exact Bool.noConfusion (Eq.trans (Eq.symm (show _ = false by with_reducible assumption)) h)) | (conv => whnf))
    | ((with_reducible refine sp_nb' (fun h => ?_) (fun h => ?_)) <;> first | (exact Bool.noConfusion (Eq.trans (Eq.symm h) (show _ = true by with_reducible assumption))) | (exact Bool.noConfusion (Eq.trans (Eq.symm (show _ = false by with_reducible assumption)) h)) | (conv => whnf))
    | ((with_reducible refine sp_b (fun h => ?_) (fun h => ?_)) <;> first | (exact Bool.noConfusion (Eq.trans (Eq.symm h) (show _ = true by with_reducible assumption))) | (exact Bool.noConfusion (Eq.trans (Eq.symm (show _ = false by with_reducible assumption)) h)) | (conv => whnf))
    | ((with_reducible refine sp_b' (fun h => ?_) (fun h => ?_)) <;> first | (exact Bool.noConfusion (Eq.trans (Eq.symm h) (show _ = true by with_reducible assumption))) | (exact Bool.noConfusion (Eq.trans (Eq.symm (show _ = false by with_reducible assumption)) h)) | (conv => whnf))
    | (refine ⟨(rfl : nodupB _ = true), rfl, ?_⟩; conv => whnf)
    | (with_reducible refine bnd2 ?_ ?_)
    | (with_reducible refine bnd2' ?_ ?_)
    | (with_reducible refine bndN ?_ ?_)
    | ((with_reducible refine and_of ?_ ?_); conv => whnf)
    | ((with_reducible refine gcI (g := 56) ?_); refine ⟨_, _, h_l01Below (hi := ?_) (hl := by with_reducible assumption) .., fun res B hRB => ?_⟩; rotate_right; obtain ⟨x, i', g', rfl, rfl, hx, hi'⟩ := hRB; conv => whnf)
    | ((with_reducible show awpOps _ _ _ _ _ _); conv => whnf)
    | (intro h; conv => whnf))
  all_goals (repeat (clear hK; clear K1))
  all_goals first | (with_reducible assumption) | exact ⟨_, _, _, rfl, rfl, getD_mem (by omega) (by omega), by assumption⟩ | omega | skip
def givI (b : List Int) (n : Int) : Nat → Int
  | 0 => atI b n
  | k + 1 => belI b (givI b n k) 256
def givH (b : List Int) (n : Int) : Nat → Int
  | 0 => atH b n
  | k + 1 => belH (givH b n k) 256
def givL (w : Int) (b : List Int) (n : Int) : Nat → List Int
  | 0 => []
  | k + 1 => givL w b n k ++ [wordOfP w (belX b (givI b n k) (givH b n k) 256)]
theorem givI_0 {b : List Int} {n : Int} (h : 0 ≤ n) : ∀ k, 0 ≤ givI b n k
  | 0 => atI_0 h
  | k + 1 => belI_0 (givI_0 h k)
theorem givL_len (w : Int) (b : List Int) (n : Int) : ∀ k, (givL w b n k).length = k
  | 0 => rfl
  | k + 1 => by rw [givL, List.length_append, givL_len w b n k]; rfl
theorem givL_w {w : Int} (b : List Int) (n : Int) (hw : inP w 1 16 = true) : ∀ k, ∀ x ∈ givL w b n k, wordP w x = true
  | 0 => fun x hx => by simp [givL] at hx
  | k + 1 => fun x hx => by
    rw [givL, List.mem_append] at hx
    rcases hx with hx | hx
    · exact givL_w b n hw k x hx
    · rw [List.mem_singleton] at hx; subst hx; exact wordOf_word _ hw
theorem prog_in {p : V.Prog} (h : progP p = true) : 0 ≤ p.inn ∧ p.inn ≤ 3 ∧ inP p.w 1 16 = true := by
  simp [progP, inP] at h ⊢
  omega
theorem giv_ok {p : V.Prog} (b : List Int) (n : Int) (h : progP p = true) : inputsP p (givL p.w b n p.inn.toNat) = true := by
  obtain ⟨h1, h2, h3⟩ := prog_in h
  simp only [inputsP, Bool.and_eq_true, List.all_eq_true]
  refine ⟨h, givL_w b n h3 _, ?_⟩
  rw [givL_len]; simp; omega
set_option maxHeartbeats 2000000 in
set_option maxRecDepth 100000 in
theorem c_GiveInputs (b : List Int) (n w mem inn : Int) (c : List V.Ins) (hn : 0 ≤ n) (hl : b.length ≤ maxLen) (h1 : inn ≤ 1000) : CallsF Try.prog 12 [.dat (.seq .bytes b), .dat (.i n), .agg [.dat (.i w), .dat (.i mem), .dat (.i inn), .dat (.seq .inss c)]] true (fun res B => res = .row 0 ∧ B = [.row 3 .ints (givL w b n inn.toNat) false]) := by
  refine CallsF.of_awp tauOk mixOk Try.func12 rfl rfl rfl ?_
  conv => whnf
  repeat' (first
    | ((with_reducible refine Alt.l ?_); conv => whnf)
    | ((with_reducible refine fun (K1 : AX → AState → Prop) hK => ?_); conv => whnf)
    | ((with_reducible show K1 _ _); subst hK; conv => whnf)
    | (with_reducible exact rfl)
    | ((with_reducible refine sp_T ?_); conv => whnf)
    | ((with_reducible refine sp_F ?_); conv => whnf)
    | ((with_reducible refine sp_T' ?_); conv => whnf)
    | ((with_reducible refine sp_F' ?_); conv => whnf)
    | ((with_reducible refine sp_dF ?_ ?_); decide; conv => whnf)
    | ((with_reducible refine sp_dT ?_ ?_); decide; conv => whnf)
    | ((with_reducible refine sp_d (fun h => ?_) (fun h => ?_)) <;> first | contradiction | (subst h; conv => whnf) | (conv => whnf))
    | ((with_reducible refine sp_d' (fun h => ?_) (fun h => ?_)) <;> first | contradiction | (subst h; conv => whnf) | (conv => whnf))
    | ((with_reducible refine sp_eF ?_ ?_); decide; conv => whnf)
    | ((with_reducible refine sp_eT ?_); conv => whnf)
    | ((with_reducible refine sp_e (fun h => ?_) (fun h => ?_)) <;> first | contradiction | (subst h; conv => whnf) | (conv => whnf))
    | ((with_reducible refine sp_e' (fun h => ?_) (fun h => ?_)) <;> first | contradiction | (subst h; conv => whnf) | (conv => whnf))
    | ((with_reducible refine sp_n (fun h => ?_) (fun h => ?_)) <;> first | contradiction | (subst h; conv => whnf) | (conv => whnf))
    | ((with_reducible refine sp_n' (fun h => ?_) (fun h => ?_)) <;> first | contradiction | (subst h; conv => whnf) | (conv => whnf))
    | ((with_reducible refine sp_nb (fun h => ?_) (fun h => ?_)) <;> first | (exact Bool.noConfusion (Eq.trans (Eq.symm h) (show _ = true by with_reducible assumption))) | (exact Bool.noConfusion (Eq.trans (Eq.symm (show _ = false by with_reducible assumption)) h)) | (conv => whnf))
    | ((with_reducible refine sp_nb' (fun h => ?_) (fun h => ?_)) <;> first | (exact Bool.noConfusion (Eq.trans (Eq.symm h) (show _ = true by with_reducible assumption))) | (exact Bool.noConfusion (Eq.trans (Eq.symm (show _ = false by with_reducible assumption)) h)) | (conv => whnf))
    | ((with_reducible refine sp_b (fun h => ?_) (fun h => ?_)) <;> first | (exact Bool.noConfusion (Eq.trans (Eq.symm h) (show _ = true by with_reducible assumption))) | (exact Bool.noConfusion (Eq.trans (Eq.symm (show _ = false by with_reducible assumption)) h)) | (conv => whnf))
    | ((with_reducible refine sp_b' (fun h => ?_) (fun h => ?_)) <;> first | (exact Bool.noConfusion (Eq.trans (Eq.symm h) (show _ = true by with_reducible assumption))) | (exact Bool.noConfusion (Eq.trans (Eq.symm (show _ = false by with_reducible assumption)) h)) | (conv => whnf))
    | (refine ⟨(rfl : nodupB _ = true), rfl, ?_⟩; conv => whnf)
    | (with_reducible refine bnd2 ?_ ?_)
    | (with_reducible refine bnd2' ?_ ?_)
    | (with_reducible refine bndN ?_ ?_)
    | ((with_reducible refine and_of ?_ ?_); conv => whnf)
    | (refine Exists.intro ({k : Nat // k ≤ inn.toNat}) (Exists.intro (fun ⟨k, hk⟩ => mkS Try.f12.ntmps [(5, .ptr 5 0), (7, .ptr 7 0), (8, .row 108), (9, .dat (.i k))] [(5, .box [.dat (.i w), .dat (.i mem), .dat (.i inn), .dat (.seq .inss c)]), (7, .box [.dat (.seq .bytes b), .dat (.i (givI b n k)), .dat (.i (givH b n k))]), (108, .row 3 .ints (givL w b n k) false)]) (Exists.intro (fun ⟨k, hk⟩ => inn.toNat - k) (Exists.intro ⟨0, Nat.zero_le _⟩ (And.intro (SubP.sub (σ := [(5, some 5), (7, some 13000), (108, some 13)]) ⟨⟨rfl, rfl, rfl⟩, ⟨⟨rfl, rfl⟩, ⟨rfl, rfl⟩, rfl, (wk_dat ?_), trivial⟩, ⟨⟨(wkC_dat ?_), (wkC_dat ?_), (wkC_dat ?_), (wkC_dat ?_), trivial⟩, ⟨(wkC_dat ?_), (wkC_dat ?_), (wkC_dat ?_), trivial⟩, ⟨⟨rfl, rfl⟩, ?_⟩, trivial⟩⟩) (fun ⟨k, hk⟩ => ?_))))); rotate_right; conv => whnf)
    | (refine Exists.intro ⟨k + 1, ?_⟩ (And.intro ?_ (SubP.sub (σ := [(5, some 5), (7, some 7), (108, some 27)]) ⟨⟨rfl, rfl, rfl⟩, ⟨⟨rfl, rfl⟩, ⟨rfl, rfl⟩, rfl, (wk_dat ?_), trivial⟩, ⟨⟨(wkC_dat ?_), (wkC_dat ?_), (wkC_dat ?_), (wkC_dat ?_), trivial⟩, ⟨(wkC_dat ?_), (wkC_dat ?_), (wkC_dat ?_), trivial⟩, ⟨⟨rfl, rfl⟩, ?_⟩, trivial⟩⟩)))
    | ((with_reducible refine fcI (g := 53) ?_); refine ⟨_, _, c_l11At (hl := ?_) .., rfl, fun res B hRB => ?_⟩; rotate_right; obtain ⟨rfl, rfl⟩ := hRB; conv => whnf)
    | ((with_reducible refine pcI (g := 60) ?_); refine ⟨_, s_WordOf .., rfl, ?_⟩; rotate_right; conv => whnf)
    | ((with_reducible show Exists _); refine Exists.intro _ (And.intro (s_WordOf ..) (And.intro rfl ?_)); rotate_right; conv => whnf)
    | ((with_reducible refine gcI (g := 56) ?_); refine ⟨_, _, c_l01Below (hi := ?_) (hl := ?_) .., fun res B hRB => ?_⟩; rotate_right; obtain ⟨rfl, rfl⟩ := hRB; conv => whnf)
    | ((with_reducible show awpOps _ _ _ _ _ _); conv => whnf)
    | (intro h; conv => whnf))
  all_goals (repeat (clear hK; clear K1))
  all_goals first
    | (with_reducible assumption)
    | (with_reducible rfl)
    | exact givI_0 hn k
    | omega
    | (dsimp only; omega)
    | (rw [givL_len]; have hm : maxLen = 9223372036854775807 := rfl; simp; omega)
    | (show ((givL w b n k).length + _) * 8 ≤ _; rw [givL_len]; simp; omega)
    | exact congrArg (Dat.int .i64) (wrap_id (by omega) (by omega)).symm
    | exact row_fin (by rw [show k = inn.toNat from by omega])
    | rfl
    | skip
theorem v_GiveInputs (b : List Int) (n w mem inn : Int) (c : List V.Ins) (hn : 0 ≤ n) (hl : b.length ≤ maxLen) (h1 : inn ≤ 1000) : CallsV Try.prog 12 [.dat (.seq .bytes b), .dat (.i n), .agg [.dat (.i w), .dat (.i mem), .dat (.i inn), .dat (.seq .inss c)]] (.dat (.seq .ints (givL w b n inn.toNat))) :=
  (c_GiveInputs b n w mem inn c hn hl h1).toV fun res B ⟨h1, h2⟩ => by subst h1 h2; exact rfl
theorem mk1 {a w n size : Int} (ha : 0 ≤ a ∧ a ≤ 255 ∧ ((0 : Int) < 4 → a < 4)) (hw : inP w 1 16 = true) : insP ⟨1, a, wordOfP w n, 0⟩ w size = true := by
  simp [insP, regP, inP, wordOf_word n hw]; omega
theorem mk2 {op a b w size : Int} (ho : op = 2 ∨ op = 7 ∨ op = 8) (ha : 0 ≤ a ∧ a ≤ 255 ∧ ((0 : Int) < 4 → a < 4)) (hb : 0 ≤ b ∧ b ≤ 255 ∧ ((0 : Int) < 4 → b < 4)) : insP ⟨op, a, b, 0⟩ w size = true := by
  rcases ho with rfl | rfl | rfl <;> simp [insP, regP, inP] <;> omega
theorem mk3 {a b w size x : Int} (ha : 0 ≤ a ∧ a ≤ 255 ∧ ((0 : Int) < 4 → a < 4)) (hb : 0 ≤ b ∧ b ≤ 255 ∧ ((0 : Int) < 4 → b < 4)) (hx : x ∈ ([3, 4, 5, 6, 7, 8, 9, 10, 11, 12, 13, 14, 15, 16] : List Int)) : insP ⟨3, a, b, x⟩ w size = true := by
  have hx' : 3 ≤ x ∧ x ≤ 16 := by simp at hx; omega
  simp [insP, regP, inP]; omega
theorem mk4 {op a w size : Int} (ho : op = 4 ∨ op = 5 ∨ op = 6 ∨ op = 13) (ha : 0 ≤ a ∧ a ≤ 255 ∧ ((0 : Int) < 4 → a < 4)) : insP ⟨op, a, 0, 0⟩ w size = true := by
  rcases ho with rfl | rfl | rfl | rfl <;> simp [insP, regP, inP] <;> omega
theorem mk9 {op x w size : Int} (ho : op = 9 ∨ op = 11) (hx : 0 ≤ x ∧ x ≤ size) : insP ⟨op, 0, x, 0⟩ w size = true := by
  rcases ho with rfl | rfl <;> simp [insP, inP] <;> omega
theorem mk10 {a x w size : Int} (ha : 0 ≤ a ∧ a ≤ 255 ∧ ((0 : Int) < 4 → a < 4)) (hx : 0 ≤ x ∧ x ≤ size) : insP ⟨10, a, x, 0⟩ w size = true := by
  simp [insP, regP, inP]; omega
theorem place1 {size x : Int} (hs : 0 ≤ size ∧ size ≤ 100) (hx : 0 ≤ x ∧ x ≤ 255 ∧ (0 < IntKind.i64.wrap (size + 1) → x < IntKind.i64.wrap (size + 1))) : 0 ≤ x ∧ x ≤ size := by
  rw [wrap_id (n := size + 1) (by omega) (by omega)] at hx; omega
theorem place2 {size at' x : Int} (hs : 0 ≤ size ∧ size ≤ 100) (h0 : 0 ≤ at') (h1 : at' < size) (hx : 0 ≤ x ∧ x ≤ 255 ∧ (0 < IntKind.i64.wrap (size - at') → x < IntKind.i64.wrap (size - at'))) : 0 ≤ IntKind.i64.wrap (IntKind.i64.wrap (at' + 1) + x) ∧ IntKind.i64.wrap (IntKind.i64.wrap (at' + 1) + x) ≤ size := by
  rw [wrap_id (n := size - at') (by omega) (by omega)] at hx
  rw [wrap_id (n := at' + 1) (by omega) (by omega), wrap_id (by omega) (by omega)]; omega
set_option maxHeartbeats 8000000 in
set_option maxRecDepth 100000 in
theorem h_l05One (b : List Int) (i g w size at' : Int) (hi : 0 ≤ i) (hl : b.length ≤ maxLen) (hw : inP w 1 16 = true) (hs : 0 ≤ size ∧ size ≤ 100) (h0 : 0 ≤ at') (h1 : at' < size) : CallsG Try.prog 104 [.ptr 0 0, .dat (.i w), .dat (.i size), .dat (.i at')] [.box [.dat (.seq .bytes b), .dat (.i i), .dat (.i g)]] 1 (fun res B => ∃ op a c d i' g' : Int, res = .agg [.dat (.i op), .dat (.i a), .dat (.i c), .dat (.i d)] ∧ B = [.box [.dat (.seq .bytes b), .dat (.i i'), .dat (.i g')]] ∧ insP ⟨op, a, c, d⟩ w size = true ∧ 0 ≤ i') := by
  refine CallsG.of_awp tauOk mixOk Try.func104 rfl rfl rfl ?_
  conv => whnf
  repeat' (first
    | ((with_reducible refine Alt.l ?_); conv => whnf)
    | ((with_reducible refine fun (K1 : AX → AState → Prop) hK => ?_); conv => whnf)
    | ((with_reducible show K1 _ _); subst hK; conv => whnf)
    | (with_reducible exact rfl)
    | ((with_reducible refine sp_T ?_); conv => whnf)
    | ((with_reducible refine sp_F ?_); conv => whnf)
    | ((with_reducible refine sp_T' ?_); conv => whnf)
    | ((with_reducible refine sp_F' ?_); conv => whnf)
    | ((with_reducible refine sp_dF ?_ ?_); decide; conv => whnf)
    | ((with_reducible refine sp_dT ?_ ?_); decide; conv => whnf)
    | ((with_reducible refine sp_d (fun h => ?_) (fun h => ?_)) <;> first | contradiction | (subst h; conv => whnf) | (conv => whnf))
    | ((with_reducible refine sp_d' (fun h => ?_) (fun h => ?_)) <;> first | contradiction | (subst h; conv => whnf) | (conv => whnf))
    | ((with_reducible refine sp_eF ?_ ?_); decide; conv => whnf)
    | ((with_reducible refine sp_eT ?_); conv => whnf)
    | ((with_reducible refine sp_e (fun h => ?_) (fun h => ?_)) <;> first | contradiction | (subst h; conv => whnf) | (conv => whnf))
    | ((with_reducible refine sp_e' (fun h => ?_) (fun h => ?_)) <;> first | contradiction | (subst h; conv => whnf) | (conv => whnf))
    | ((with_reducible refine sp_n (fun h => ?_) (fun h => ?_)) <;> first | contradiction | (subst h; conv => whnf) | (conv => whnf))
    | ((with_reducible refine sp_n' (fun h => ?_) (fun h => ?_)) <;> first | contradiction | (subst h; conv => whnf) | (conv => whnf))
    | ((with_reducible refine sp_nb (fun h => ?_) (fun h => ?_)) <;> first | (exact Bool.noConfusion (Eq.trans (Eq.symm h) (show _ = true by with_reducible assumption))) | (exact Bool.noConfusion (Eq.trans (Eq.symm (show _ = false by with_reducible assumption)) h)) | (conv => whnf))
    | ((with_reducible refine sp_nb' (fun h => ?_) (fun h => ?_)) <;> first | (exact Bool.noConfusion (Eq.trans (Eq.symm h) (show _ = true by with_reducible assumption))) | (exact Bool.noConfusion (Eq.trans (Eq.symm (show _ = false by with_reducible assumption)) h)) | (conv => whnf))
    | ((with_reducible refine sp_b (fun h => ?_) (fun h => ?_)) <;> first | (exact Bool.noConfusion (Eq.trans (Eq.symm h) (show _ = true by with_reducible assumption))) | (exact Bool.noConfusion (Eq.trans (Eq.symm (show _ = false by with_reducible assumption)) h)) | (conv => whnf))
    | ((with_reducible refine sp_b' (fun h => ?_) (fun h => ?_)) <;> first | (exact Bool.noConfusion (Eq.trans (Eq.symm h) (show _ = true by with_reducible assumption))) | (exact Bool.noConfusion (Eq.trans (Eq.symm (show _ = false by with_reducible assumption)) h)) | (conv => whnf))
    | (refine ⟨(rfl : nodupB _ = true), rfl, ?_⟩; conv => whnf)
    | (with_reducible refine bnd2 ?_ ?_)
    | (with_reducible refine bnd2' ?_ ?_)
    | (with_reducible refine bndN ?_ ?_)
    | ((with_reducible refine and_of ?_ ?_); conv => whnf)
    | ((with_reducible refine gcI (g := 56) ?_); refine ⟨_, _, h_l01Below (hi := ?_) (hl := by with_reducible assumption) .., fun res B hRB => ?_⟩; rotate_right; obtain ⟨x, i', g', rfl, rfl, hx, hi'⟩ := hRB; conv => whnf)
    | ((with_reducible refine gcI (g := 55) ?_); refine ⟨_, _, h_l01Once (hi := ?_) (hl := by with_reducible assumption) .., fun res B hRB => ?_⟩; rotate_right; obtain ⟨x, i', g', rfl, rfl, hi'⟩ := hRB; conv => whnf)
    | ((with_reducible refine pcI (g := 60) ?_); refine ⟨_, s_WordOf .., rfl, ?_⟩; rotate_right; conv => whnf)
    | ((with_reducible show Exists _); refine Exists.intro _ (And.intro (s_WordOf ..) (And.intro rfl ?_)); rotate_right; conv => whnf)
    | ((with_reducible refine gcI (g := 116) ?_); refine ⟨_, _, h_l01Pick (hi := ?_) (hl := by with_reducible assumption) (h1 := ?_) .., fun res B hRB => ?_⟩; rotate_right; obtain ⟨x, i', g', rfl, rfl, hm, hi'⟩ := hRB; conv => whnf)
    | ((with_reducible show awpOps _ _ _ _ _ _); conv => whnf)
    | (intro h; conv => whnf))
  all_goals (repeat (clear hK; clear K1))
  all_goals first
    | (with_reducible assumption)
    | (refine ⟨_, _, _, _, _, _, rfl, rfl, ?_, by with_reducible assumption⟩; first
        | exact mk1 (by with_reducible assumption) hw
        | exact mk2 (by decide) (by with_reducible assumption) (by with_reducible assumption)
        | exact mk3 (by with_reducible assumption) (by with_reducible assumption) (by with_reducible assumption)
        | exact mk4 (by decide) (by with_reducible assumption)
        | exact mk9 (by decide) (place1 hs (by with_reducible assumption))
        | exact mk9 (by decide) (place2 hs h0 h1 (by with_reducible assumption))
        | exact mk10 (by with_reducible assumption) (place1 hs (by with_reducible assumption))
        | exact mk10 (by with_reducible assumption) (place2 hs h0 h1 (by with_reducible assumption))
        | rfl)
    | exact Nat.succ_pos _
    | decide
    | omega
    | skip
structure DrawI (w mem inn size i : Int) (code : List V.Ins) : Prop where
  hw : 2 ≤ w ∧ w ≤ 3
  hm : 1 ≤ mem ∧ mem ≤ 3
  hn : 0 ≤ inn ∧ inn ≤ 2
  hs : inn + 2 ≤ size ∧ size ≤ inn + 14
  hi : 0 ≤ i
  hc : (code.length : Int) ≤ size
  ha : ∀ x ∈ code, insP x w size = true
theorem drawI_w {w mem inn size i : Int} {code : List V.Ins} (h : DrawI w mem inn size i code) : inP w 1 16 = true := by
  have := h.hw; simp [inP]; omega
theorem drawI_0 {x1 x2 x3 x4 i : Int} (h1 : 0 ≤ x1 ∧ x1 ≤ 255 ∧ ((0 : Int) < 2 → x1 < 2)) (h2 : 0 ≤ x2 ∧ x2 ≤ 255 ∧ ((0 : Int) < 3 → x2 < 3)) (h3 : 0 ≤ x3 ∧ x3 ≤ 255 ∧ ((0 : Int) < 3 → x3 < 3)) (h4 : 0 ≤ x4 ∧ x4 ≤ 255 ∧ ((0 : Int) < 10 → x4 < 10)) (hi : 0 ≤ i) :
    DrawI (IntKind.i64.wrap (2 + x1)) (IntKind.i64.wrap (1 + x2)) x3 (IntKind.i64.wrap (IntKind.i64.wrap (x3 + 2) + x4)) i [] := by
  rw [wrap_id (n := 2 + x1) (by omega) (by omega), wrap_id (n := 1 + x2) (by omega) (by omega), wrap_id (n := x3 + 2) (by omega) (by omega), wrap_id (n := x3 + 2 + x4) (by omega) (by omega)]
  exact ⟨by omega, by omega, by omega, by omega, hi, by simp; omega, fun x hx => by simp at hx⟩
theorem drawI_1 {w mem inn size i i' : Int} {code : List V.Ins} {y : V.Ins} (h : DrawI w mem inn size i code) (hk : (code.length : Int) < size) (hy : insP y w size = true) (hi : 0 ≤ i') : DrawI w mem inn size i' (code ++ [y]) :=
  ⟨h.hw, h.hm, h.hn, h.hs, hi, by simp; omega, fun x hx => by
    rcases List.mem_append.1 hx with hx | hx
    · exact h.ha x hx
    · rw [List.mem_singleton] at hx; subst hx; exact hy⟩
theorem drawI_in {w mem inn size i : Int} {code : List V.Ins} (h : DrawI w mem inn size i code) (hk : (code.length : Int) < inn) : insP ⟨5, code.length, 0, 0⟩ w size = true := by
  have := h.hn; simp [insP, regP, inP]; omega
theorem drawI_end {w mem inn size i : Int} {code : List V.Ins} (h : DrawI w mem inn size i code) (hk : ¬ (code.length : Int) < size) : progP ⟨w, mem, inn, code⟩ = true := by
  obtain ⟨hw, hm, hn, hs, _, hc, ha⟩ := h
  have e : (code.length : Int) = size := by omega
  simp only [progP, Bool.and_eq_true, inP, decide_eq_true_eq, wordP, List.all_eq_true]
  refine ⟨⟨⟨⟨⟨⟨by omega, by omega⟩, ⟨by omega, by omega⟩⟩, ⟨⟨by omega, by omega⟩, by omega, ?_⟩⟩, by omega, by omega⟩, by omega, by omega⟩, fun x hx => by rw [e]; exact ha x hx⟩
  have hw' : w = 2 ∨ w = 3 := by omega
  rcases hw' with rfl | rfl
  · show mem ≤ 3; omega
  · show mem ≤ 7; omega
theorem snoc_len {code : List V.Ins} {y : V.Ins} {size : Int} (hk : (code.length : Int) < size) (hs : size ≤ 100) : Dat.int .i64 (IntKind.i64.wrap ((code.length : Int) + 1)) = Dat.i ((code ++ [y]).length : Nat) := by
  rw [wrap_id (by omega) (by omega)]; simp
theorem drawI_s {w mem inn size i : Int} {code : List V.Ins} (h : DrawI w mem inn size i code) : size ≤ 100 := by
  have := h.hs; have := h.hn; omega
set_option maxHeartbeats 8000000 in
set_option maxRecDepth 100000 in
theorem h_l05Draw (b : List Int) (i g : Int) (hi : 0 ≤ i) (hl : b.length ≤ maxLen) : CallsG Try.prog 54 [.ptr 0 0, .dat (.i 10)] [.box [.dat (.seq .bytes b), .dat (.i i), .dat (.i g)]] 1 (fun res B => ∃ (w mem inn i' g' : Int) (code : List V.Ins), res = .agg [.dat (.i w), .dat (.i mem), .dat (.i inn), .row 1] ∧ B = [.box [.dat (.seq .bytes b), .dat (.i i'), .dat (.i g')], .row 35 .inss code false] ∧ progP ⟨w, mem, inn, code⟩ = true ∧ 0 ≤ i') := by
  refine CallsG.of_awp tauOk mixOk Try.func54 rfl rfl rfl ?_
  conv => whnf
  repeat' (first
    | ((with_reducible refine Alt.r ?_); conv => whnf)
    | ((with_reducible refine fun (K1 : AX → AState → Prop) hK => ?_); conv => whnf)
    | ((with_reducible show K1 _ _); subst hK; conv => whnf)
    | (with_reducible exact rfl)
    | ((with_reducible refine sp_T ?_); conv => whnf)
    | ((with_reducible refine sp_F ?_); conv => whnf)
    | ((with_reducible refine sp_T' ?_); conv => whnf)
    | ((with_reducible refine sp_F' ?_); conv => whnf)
    | ((with_reducible refine sp_dF ?_ ?_); decide; conv => whnf)
    | ((with_reducible refine sp_dT ?_ ?_); decide; conv => whnf)
    | ((with_reducible refine sp_d (fun h => ?_) (fun h => ?_)) <;> first | contradiction | (subst h; conv => whnf) | (conv => whnf))
    | ((with_reducible refine sp_d' (fun h => ?_) (fun h => ?_)) <;> first | contradiction | (subst h; conv => whnf) | (conv => whnf))
    | ((with_reducible refine sp_eF ?_ ?_); decide; conv => whnf)
    | ((with_reducible refine sp_eT ?_); conv => whnf)
    | ((with_reducible refine sp_e (fun h => ?_) (fun h => ?_)) <;> first | contradiction | (subst h; conv => whnf) | (conv => whnf))
    | ((with_reducible refine sp_e' (fun h => ?_) (fun h => ?_)) <;> first | contradiction | (subst h; conv => whnf) | (conv => whnf))
    | ((with_reducible refine sp_n (fun h => ?_) (fun h => ?_)) <;> first | contradiction | (subst h; conv => whnf) | (conv => whnf))
    | ((with_reducible refine sp_n' (fun h => ?_) (fun h => ?_)) <;> first | contradiction | (subst h; conv => whnf) | (conv => whnf))
    | ((with_reducible refine sp_nb (fun h => ?_) (fun h => ?_)) <;> first | (exact Bool.noConfusion (Eq.trans (Eq.symm h) (show _ = true by with_reducible assumption))) | (exact Bool.noConfusion (Eq.trans (Eq.symm (show _ = false by with_reducible assumption)) h)) | (conv => whnf))
    | ((with_reducible refine sp_nb' (fun h => ?_) (fun h => ?_)) <;> first | (exact Bool.noConfusion (Eq.trans (Eq.symm h) (show _ = true by with_reducible assumption))) | (exact Bool.noConfusion (Eq.trans (Eq.symm (show _ = false by with_reducible assumption)) h)) | (conv => whnf))
    | ((with_reducible refine sp_b (fun h => ?_) (fun h => ?_)) <;> first | (exact Bool.noConfusion (Eq.trans (Eq.symm h) (show _ = true by with_reducible assumption))) | (exact Bool.noConfusion (Eq.trans (Eq.symm (show _ = false by with_reducible assumption)) h)) | (conv => whnf))
    | ((with_reducible refine sp_b' (fun h => ?_) (fun h => ?_)) <;> first | (exact Bool.noConfusion (Eq.trans (Eq.symm h) (show _ = true by with_reducible assumption))) | (exact Bool.noConfusion (Eq.trans (Eq.symm (show _ = false by with_reducible assumption)) h)) | (conv => whnf))
    | (refine ⟨(rfl : nodupB _ = true), rfl, ?_⟩; conv => whnf)
    | (with_reducible refine bnd2 ?_ ?_)
    | (with_reducible refine bnd2' ?_ ?_)
    | (with_reducible refine bndN ?_ ?_)
    | ((with_reducible refine and_of ?_ ?_); conv => whnf)
    | (refine Exists.intro ({x : (Int × Int × Int) × (Int × Int × Int) × List V.Ins // DrawI x.1.1 x.1.2.1 x.1.2.2 x.2.1.1 x.2.1.2.1 x.2.2}) (Exists.intro (fun ⟨⟨⟨w, mem, inn⟩, ⟨size, i, g⟩, code⟩, hI⟩ => mkS Try.f54.ntmps [(0, .ptr 900000 0), (4, .ptr 4 0), (5, .ptr 5 0), (6, .dat (.i size)), (7, .dat (.i code.length))] [(900000, .box [.dat (.seq .bytes b), .dat (.i i), .dat (.i g)]), (4, .box [.cell, .cell, .cell, .cell]), (5, .box [.dat (.i w), .dat (.i mem), .dat (.i inn), .row 107]), (107, .row 35 .inss code false)]) (Exists.intro (fun ⟨⟨⟨w, mem, inn⟩, ⟨size, i, g⟩, code⟩, hI⟩ => (size.toNat - code.length)) (Exists.intro ⟨⟨⟨?_, ?_, ?_⟩, ⟨?_, ?_, ?_⟩, []⟩, ?_⟩ (And.intro (SubP.sub (σ := [(900000, some 900000), (4, some 4), (5, some 5), (107, none)]) ⟨⟨rfl, rfl, rfl⟩, ⟨⟨rfl, rfl⟩, ⟨rfl, rfl⟩, ⟨rfl, rfl⟩, (wk_dat ?_), (wk_dat ?_), trivial⟩, ⟨⟨(wkC_dat ?_), (wkC_dat ?_), (wkC_dat ?_), trivial⟩, ⟨rfl, rfl, rfl, rfl, trivial⟩, ⟨(wkC_dat ?_), (wkC_dat ?_), (wkC_dat ?_), rfl, trivial⟩, ?_, trivial⟩⟩) (fun ⟨⟨⟨w, mem, inn⟩, ⟨size, i, g⟩, code⟩, hI⟩ => ?_))))); rotate_right; conv => whnf)
    | (refine Exists.intro ⟨⟨⟨w, mem, inn⟩, ⟨size, ?_, ?_⟩, ?_⟩, ?_⟩ (And.intro ?_ (SubP.sub (σ := [(900000, some 900000), (4, some 4), (5, some 5), (107, some 43)]) ⟨⟨rfl, rfl, rfl⟩, ⟨⟨rfl, rfl⟩, ⟨rfl, rfl⟩, ⟨rfl, rfl⟩, (wk_dat ?_), (wk_dat ?_), trivial⟩, ⟨⟨(wkC_dat ?_), (wkC_dat ?_), (wkC_dat ?_), trivial⟩, ⟨rfl, rfl, rfl, rfl, trivial⟩, ⟨(wkC_dat ?_), (wkC_dat ?_), (wkC_dat ?_), rfl, trivial⟩, ⟨⟨rfl, rfl⟩, ?_⟩, trivial⟩⟩)))
    | (refine Exists.intro ⟨⟨⟨w, mem, inn⟩, ⟨size, ?_, ?_⟩, ?_⟩, ?_⟩ (And.intro ?_ (SubP.sub (σ := [(900000, some 900000), (4, some 4), (5, some 5), (107, some 54)]) ⟨⟨rfl, rfl, rfl⟩, ⟨⟨rfl, rfl⟩, ⟨rfl, rfl⟩, ⟨rfl, rfl⟩, (wk_dat ?_), (wk_dat ?_), trivial⟩, ⟨⟨(wkC_dat ?_), (wkC_dat ?_), (wkC_dat ?_), trivial⟩, ⟨rfl, rfl, rfl, rfl, trivial⟩, ⟨(wkC_dat ?_), (wkC_dat ?_), (wkC_dat ?_), rfl, trivial⟩, ⟨⟨rfl, rfl⟩, ?_⟩, trivial⟩⟩)))
    | ((with_reducible refine gcI (g := 56) ?_); refine ⟨_, _, h_l01Below (hi := ?_) (hl := by with_reducible assumption) .., fun res B hRB => ?_⟩; rotate_right; obtain ⟨x, i', g', rfl, rfl, hx, hi'⟩ := hRB; conv => whnf)
    | ((with_reducible refine gcI (g := 55) ?_); refine ⟨_, _, h_l01Once (hi := ?_) (hl := by with_reducible assumption) .., fun res B hRB => ?_⟩; rotate_right; obtain ⟨x, i', g', rfl, rfl, hi'⟩ := hRB; conv => whnf)
    | ((with_reducible refine gcI (g := 104) ?_); refine ⟨_, _, h_l05One (hi := ?_) (hl := by with_reducible assumption) (hw := ?_) (hs := ?_) (h0 := ?_) (h1 := ?_) .., fun res B hRB => ?_⟩; rotate_right; obtain ⟨op, a, c, d, i', g', rfl, rfl, hp, hi'⟩ := hRB; conv => whnf)
    | ((with_reducible show awpOps _ _ _ _ _ _); conv => whnf)
    | (intro h; conv => whnf))
  all_goals (repeat (clear hK; clear K1))
  all_goals first
    | (with_reducible assumption)
    | (with_reducible rfl)
    | exact hI.hi
    | exact drawI_w hI
    | exact drawI_1 hI (by with_reducible assumption) (drawI_in hI (by with_reducible assumption)) (by with_reducible assumption)
    | exact drawI_1 hI (by with_reducible assumption) (by with_reducible assumption) (by with_reducible assumption)
    | exact drawI_1 hI (by with_reducible assumption) (drawI_in hI (by with_reducible assumption)) hI.hi
    | exact drawI_0 (by with_reducible assumption) (by with_reducible assumption) (by with_reducible assumption) (by with_reducible assumption) (by with_reducible assumption)
    | exact (snoc_len (by with_reducible assumption) (drawI_s hI)).symm
    | exact (rfl : Dat.i ((([] : List V.Ins).length : Nat) : Int) = Dat.int .i64 0)
    | exact ⟨_, _, _, _, _, _, rfl, rfl, drawI_end hI (by with_reducible assumption), hI.hi⟩
    | (show size.toNat - (code ++ [_]).length < size.toNat - code.length; simp; omega)
    | (show (code.length + 1) * 32 ≤ 140737488355328; have q1 := hI.hs; have q2 := hI.hn; have q3 := hI.hc; simp only at q1 q2 q3; omega)
    | (show code.length + 1 ≤ maxLen; have q1 := hI.hs; have q2 := hI.hn; have q3 := hI.hc; have hm : maxLen = 9223372036854775807 := rfl; simp only at q1 q2 q3; omega)
    | (have q1 := hI.hs; have q2 := hI.hn; simp only at q1 q2; omega)
    | omega
    | (show ([] : List V.Ins).length = 0; rfl)
    | exact rfl
    | skip
structure GivI (w mem inn i : Int) (code : List V.Ins) (k : Int) : Prop where
  hp : progP ⟨w, mem, inn, code⟩ = true
  hi : 0 ≤ i
  hk : 0 ≤ k
theorem givI_len {w mem inn i k : Int} {code : List V.Ins} (h : GivI w mem inn i code k) : code.length ≤ 40 := prog_c h.hp
theorem givI_st {w mem inn i : Int} {code : List V.Ins} (hp : progP ⟨w, mem, inn, code⟩ = true) (hi : 0 ≤ i) : GivI w mem inn i code inn := ⟨hp, hi, (prog_in hp).1⟩
theorem prog_set {w mem inn : Int} {code : List V.Ins} {y : V.Ins} (k : Nat) (hp : progP ⟨w, mem, inn, code⟩ = true) (hy : insP y w code.length = true) : progP ⟨w, mem, inn, code.set k y⟩ = true := by
  simp only [progP, Bool.and_eq_true, List.all_eq_true, List.length_set] at hp ⊢
  refine ⟨hp.1, fun x hx => ?_⟩
  rcases List.mem_or_eq_of_mem_set hx with h | h
  · exact hp.2 x h
  · subst h; exact hy
theorem givI_skip {w mem inn i i' k : Int} {code : List V.Ins} (h : GivI w mem inn i code k) (hi : 0 ≤ i') (hk : k < code.length) : GivI w mem inn i' code (IntKind.i64.wrap (k + 1)) := by
  have h1 := h.hk; have h2 := givI_len h
  exact ⟨h.hp, hi, by rw [wrap_id (by omega) (by omega)]; omega⟩
theorem givI_put {w mem inn i i' k a x : Int} {code : List V.Ins} (h : GivI w mem inn i code k) (hi : 0 ≤ i') (hk : k < code.length) (ha : 0 ≤ a ∧ a ≤ 255 ∧ ((0 : Int) < 3 → a < 3))
    (hx : 0 ≤ x ∧ x ≤ 255 ∧ (0 < IntKind.i64.wrap ((code.length : Int) - k) → x < IntKind.i64.wrap ((code.length : Int) - k))) :
    GivI w mem inn i' (code.set k.toNat ⟨10, a, IntKind.i64.wrap (IntKind.i64.wrap (k + 1) + x), 0⟩) (IntKind.i64.wrap (k + 1)) := by
  have h1 := h.hk; have h2 := givI_len h
  refine ⟨prog_set _ h.hp (mk10 (by omega) (place2 (by omega) h1 hk hx)), hi, by rw [wrap_id (by omega) (by omega)]; omega⟩
theorem giv_mu2 {code : List V.Ins} {k : Int} (h0 : 0 ≤ k) (hl : code.length ≤ 40) (hk : k < code.length) : ((code.length : Int) - IntKind.i64.wrap (k + 1)).toNat < ((code.length : Int) - k).toNat := by
  rw [wrap_id (by omega) (by omega)]; omega
theorem giv_mu1 {code : List V.Ins} {y : V.Ins} {k : Int} (h0 : 0 ≤ k) (hl : code.length ≤ 40) (hk : k < code.length) : (((code.set k.toNat y).length : Int) - IntKind.i64.wrap (k + 1)).toNat < ((code.length : Int) - k).toNat := by
  rw [List.length_set]; exact giv_mu2 h0 hl hk
set_option maxHeartbeats 8000000 in
set_option maxRecDepth 100000 in
theorem c_GiveProg (b : List Int) (n : Int) (hn : 0 ≤ n) (hl : b.length ≤ maxLen) : CallsF Try.prog 9 [.dat (.seq .bytes b), .dat (.i n)] true (fun res B => ∃ (w mem inn : Int) (code : List V.Ins), res = .agg [.dat (.i w), .dat (.i mem), .dat (.i inn), .row 0] ∧ B = [.row 35 .inss code false] ∧ progP ⟨w, mem, inn, code⟩ = true) := by
  refine CallsF.of_awp tauOk mixOk Try.func9 rfl rfl rfl ?_
  conv => whnf
  repeat' (first
    | ((with_reducible refine Alt.r ?_); conv => whnf)
    | ((with_reducible refine fun (K1 : AX → AState → Prop) hK => ?_); conv => whnf)
    | ((with_reducible show K1 _ _); subst hK; conv => whnf)
    | (with_reducible exact rfl)
    | ((with_reducible refine sp_T ?_); conv => whnf)
    | ((with_reducible refine sp_F ?_); conv => whnf)
    | ((with_reducible refine sp_T' ?_); conv => whnf)
    | ((with_reducible refine sp_F' ?_); conv => whnf)
    | ((with_reducible refine sp_dF ?_ ?_); decide; conv => whnf)
    | ((with_reducible refine sp_dT ?_ ?_); decide; conv => whnf)
    | ((with_reducible refine sp_d (fun h => ?_) (fun h => ?_)) <;> first | contradiction | (subst h; conv => whnf) | (conv => whnf))
    | ((with_reducible refine sp_d' (fun h => ?_) (fun h => ?_)) <;> first | contradiction | (subst h; conv => whnf) | (conv => whnf))
    | ((with_reducible refine sp_eF ?_ ?_); decide; conv => whnf)
    | ((with_reducible refine sp_eT ?_); conv => whnf)
    | ((with_reducible refine sp_e (fun h => ?_) (fun h => ?_)) <;> first | contradiction | (subst h; conv => whnf) | (conv => whnf))
    | ((with_reducible refine sp_e' (fun h => ?_) (fun h => ?_)) <;> first | contradiction | (subst h; conv => whnf) | (conv => whnf))
    | ((with_reducible refine sp_n (fun h => ?_) (fun h => ?_)) <;> first | contradiction | (subst h; conv => whnf) | (conv => whnf))
    | ((with_reducible refine sp_n' (fun h => ?_) (fun h => ?_)) <;> first | contradiction | (subst h; conv => whnf) | (conv => whnf))
    | ((with_reducible refine sp_nb (fun h => ?_) (fun h => ?_)) <;> first | (exact Bool.noConfusion (Eq.trans (Eq.symm h) (show _ = true by with_reducible assumption))) | (exact Bool.noConfusion (Eq.trans (Eq.symm (show _ = false by with_reducible assumption)) h)) | (conv => whnf))
    | ((with_reducible refine sp_nb' (fun h => ?_) (fun h => ?_)) <;> first | (exact Bool.noConfusion (Eq.trans (Eq.symm h) (show _ = true by with_reducible assumption))) | (exact Bool.noConfusion (Eq.trans (Eq.symm (show _ = false by with_reducible assumption)) h)) | (conv => whnf))
    | ((with_reducible refine sp_b (fun h => ?_) (fun h => ?_)) <;> first | (exact Bool.noConfusion (Eq.trans (Eq.symm h) (show _ = true by with_reducible assumption))) | (exact Bool.noConfusion (Eq.trans (Eq.symm (show _ = false by with_reducible assumption)) h)) | (conv => whnf))
    | ((with_reducible refine sp_b' (fun h => ?_) (fun h => ?_)) <;> first | (exact Bool.noConfusion (Eq.trans (Eq.symm h) (show _ = true by with_reducible assumption))) | (exact Bool.noConfusion (Eq.trans (Eq.symm (show _ = false by with_reducible assumption)) h)) | (conv => whnf))
    | (refine ⟨(rfl : nodupB _ = true), rfl, ?_⟩; conv => whnf)
    | (with_reducible refine bnd2 ?_ ?_)
    | (with_reducible refine bnd2' ?_ ?_)
    | (with_reducible refine bndN ?_ ?_)
    | ((with_reducible refine and_of ?_ ?_); conv => whnf)
    | (refine Exists.intro ({x : (Int × Int × Int) × (Int × Int × Int) × List V.Ins // GivI x.1.1 x.1.2.1 x.1.2.2 x.2.1.1 x.2.2 x.2.1.2.2}) (Exists.intro (fun ⟨⟨⟨w, mem, inn⟩, ⟨i, g, k⟩, code⟩, hI⟩ => mkS Try.f9.ntmps [(4, .ptr 4 0), (5, .ptr 105 0), (6, .ptr 6 0), (7, .dat (.i k))] [(105, .box [.dat (.seq .bytes b), .dat (.i i), .dat (.i g)]), (4, .box [.cell, .cell, .cell, .cell]), (6, .box [.dat (.i w), .dat (.i mem), .dat (.i inn), .row 107]), (107, .row 35 .inss code false)]) (Exists.intro (fun ⟨⟨⟨w, mem, inn⟩, ⟨i, g, k⟩, code⟩, hI⟩ => (code.length - k).toNat) (Exists.intro ⟨⟨⟨?_, ?_, ?_⟩, ⟨?_, ?_, ?_⟩, ?_⟩, ?_⟩ (And.intro (SubP.sub (σ := [(105, some 11000), (4, some 4), (6, some 6), (107, some 13001)]) ⟨⟨rfl, rfl, rfl⟩, ⟨⟨rfl, rfl⟩, ⟨rfl, rfl⟩, ⟨rfl, rfl⟩, (wk_dat ?_), trivial⟩, ⟨⟨(wkC_dat ?_), (wkC_dat ?_), (wkC_dat ?_), trivial⟩, ⟨rfl, rfl, rfl, rfl, trivial⟩, ⟨(wkC_dat ?_), (wkC_dat ?_), (wkC_dat ?_), rfl, trivial⟩, ⟨⟨rfl, rfl⟩, ?_⟩, trivial⟩⟩) (fun ⟨⟨⟨w, mem, inn⟩, ⟨i, g, k⟩, code⟩, hI⟩ => ?_))))); rotate_right; conv => whnf)
    | (refine Exists.intro ⟨⟨⟨w, mem, inn⟩, ⟨?_, ?_, ?_⟩, ?_⟩, ?_⟩ (And.intro ?_ (SubP.sub (σ := [(105, some 105), (4, some 4), (6, some 6), (107, some 107)]) ⟨⟨rfl, rfl, rfl⟩, ⟨⟨rfl, rfl⟩, ⟨rfl, rfl⟩, ⟨rfl, rfl⟩, (wk_dat ?_), trivial⟩, ⟨⟨(wkC_dat ?_), (wkC_dat ?_), (wkC_dat ?_), trivial⟩, ⟨rfl, rfl, rfl, rfl, trivial⟩, ⟨(wkC_dat ?_), (wkC_dat ?_), (wkC_dat ?_), rfl, trivial⟩, ⟨⟨rfl, rfl⟩, ?_⟩, trivial⟩⟩)))
    | ((with_reducible refine fcI (g := 53) ?_); refine ⟨_, _, c_l11At (hl := ?_) .., rfl, fun res B hRB => ?_⟩; rotate_right; obtain ⟨rfl, rfl⟩ := hRB; conv => whnf)
    | ((with_reducible refine gcI (g := 54) ?_); refine ⟨_, _, h_l05Draw (hi := ?_) (hl := by with_reducible assumption) .., fun res B hRB => ?_⟩; rotate_right; obtain ⟨w, mem, inn, i', g', code, rfl, rfl, hp, hi'⟩ := hRB; conv => whnf)
    | ((with_reducible refine gcI (g := 55) ?_); refine ⟨_, _, h_l01Once (hi := ?_) (hl := by with_reducible assumption) .., fun res B hRB => ?_⟩; rotate_right; obtain ⟨x, i', g', rfl, rfl, hi'⟩ := hRB; conv => whnf)
    | ((with_reducible refine gcI (g := 56) ?_); refine ⟨_, _, h_l01Below (hi := ?_) (hl := by with_reducible assumption) .., fun res B hRB => ?_⟩; rotate_right; obtain ⟨x, i', g', rfl, rfl, hx, hi'⟩ := hRB; conv => whnf)
    | ((with_reducible show awpOps _ _ _ _ _ _); conv => whnf)
    | (intro h; conv => whnf))
  all_goals (repeat (clear hK; clear K1))
  all_goals first
    | (with_reducible assumption)
    | (with_reducible rfl)
    | exact atI_0 hn
    | exact hI.hi
    | exact givI_st (by with_reducible assumption) (by with_reducible assumption)
    | exact givI_skip hI (by with_reducible assumption) (by with_reducible assumption)
    | exact givI_put hI (by with_reducible assumption) (by with_reducible assumption) (by with_reducible assumption) (by with_reducible assumption)
    | exact hI.hk
    | exact ⟨_, _, _, _, rfl, rfl, hI.hp⟩
    | exact giv_mu1 hI.hk (givI_len hI) (by with_reducible assumption)
    | (have q : 0 ≤ k := hI.hk; have q2 : k < code.length := (by with_reducible assumption); omega)
    | exact giv_mu2 hI.hk (givI_len hI) (by with_reducible assumption)
    | omega
    | skip
theorem c_GiveProgram (b : List Int) (n : Int) (hn : 0 ≤ n) (hl : b.length ≤ maxLen) : CallsF Try.prog 9 [.dat (.seq .bytes b), .dat (.i n)] true (fun res B => (∃ (w mem inn : Int) (code : List V.Ins), res = .agg [.dat (.i w), .dat (.i mem), .dat (.i inn), .dat (.seq .inss code)] ∧ progP ⟨w, mem, inn, code⟩ = true) ∧ B = []) :=
  (c_GiveProg b n hn hl).toE (Q := fun res => ∃ (w mem inn : Int) (code : List V.Ins), res = .agg [.dat (.i w), .dat (.i mem), .dat (.i inn), .dat (.seq .inss code)] ∧ progP ⟨w, mem, inn, code⟩ = true) fun res B' ⟨w, mem, inn, code, h1, h2, h3⟩ => ⟨_, ⟨w, mem, inn, code, rfl, h3⟩, by subst h1 h2; exact ⟨rfl, rfl, rfl, rfl, trivial⟩⟩
end Vg
