/- The reference's texts of terms and words: contracts. Condition: texts are not too long. -/
import Derived.Test.YtcdepophgnlphaaDoorTxtP
import Derived.Test.YtcdepophgnlphaaDoorParS
import Derived.Test.YtcdepophgnlphaaDoorTermMS
import Derived.Test.YtcdepophgnlphaaDoorRg
namespace Vg
open Go Go.Proofs
set_option maxRecDepth 100000
set_option maxHeartbeats 40000000
structure SpI (s : ByteArray) (i : Nat) (o : List ByteArray) (wd : ByteArray) : Prop where
  le : i ≤ s.size
  lo : o.length ≤ 2 * i
  lw : wd.size ≤ i
  eq : u4 [] s.data.toList = o.map (·.data.toList) ++ u4 wd.data.toList (s.data.toList.drop i)
theorem sp_0 (s : ByteArray) : SpI s 0 [] ByteArray.empty := ⟨Nat.zero_le _, Nat.le_refl _, Nat.le_refl _, rfl⟩
section
variable {s : ByteArray} {i : Nat} {o : List ByteArray} {wd : ByteArray}
abbrev chS (s : ByteArray) (i : Nat) : ByteArray := s.extract (i : Int).toNat (IntKind.i64.wrap ((i : Int) + 1)).toNat
theorem gO (hs : s.size ≤ 1048576) (h : (i : Int) < s.size) : (chS s i).data.toList = [s.data.toList.getD i 0] := by
  have hl : s.data.toList.length = s.size := rfl
  have h' : i < s.data.toList.length := by omega
  unfold chS
  rw [g4 omG omG, Int.toNat_natCast, show ((i : Int) + 1).toNat = i + 1 by omega, ByteArray.data_extract, Array.toList_extract, List.extract_eq_take_drop, List.getD_eq_getElem?_getD, List.getElem?_eq_getElem h',
    List.drop_eq_getElem_cons h', show i + 1 - i = 0 + 1 by omega, List.take_succ_cons, List.take_zero]; rfl
theorem uN (h : (i : Int) < s.size) : s.data.toList.drop i = s.data.toList.getD i 0 :: s.data.toList.drop (i + 1) := by
  have hl : s.data.toList.length = s.size := rfl
  have h' : i < s.data.toList.length := by omega
  rw [List.drop_eq_getElem_cons h', List.getD_eq_getElem?_getD, List.getElem?_eq_getElem h']; rfl
theorem aX (hs : s.size ≤ 1048576) (h : (i : Int) < s.size) : (chS s i).size = 1 := by
  show (chS s i).data.toList.length = 1
  rw [gO hs h]; rfl
theorem isD_n {c : UInt8} (h40 : ¬ (c.toNat : Int) = 40) (h41 : ¬ (c.toNat : Int) = 41) (h32 : ¬ (c.toNat : Int) = 32) : n6 c = false := by
  have e : c ≠ 32 ∧ c ≠ 40 ∧ c ≠ 41 := by refine ⟨?_, ?_, ?_⟩ <;> rintro rfl <;> first | exact h32 rfl | exact h40 rfl | exact h41 rfl
  unfold n6
  simp [e.1, e.2.1, e.2.2]
theorem c_eq {c : UInt8} {n : Nat} (_hn : n < 256) (h : (c.toNat : Int) = n) : c = UInt8.ofNat n := by
  have : c.toNat = n := by omega
  rw [← this]; simp
theorem qF (h : (wd.toList == (⟨#[]⟩ : ByteArray).toList) = true) : wd.data.toList = [] := by rw [str_eq h]
theorem wd_n (h : (wd.toList == (⟨#[]⟩ : ByteArray).toList) = false) : wd.data.toList ≠ [] := fun e => str_ne h (by
  apply ByteArray.ext
  apply Array.ext'
  rw [e])
theorem sp_A (hI : SpI s i o wd) (hs : s.size ≤ 1048576) (h : (i : Int) < s.size) (h40 : ¬ ((s.data.toList.getD (i : Int).toNat 0).toNat : Int) = 40) (h41 : ¬ ((s.data.toList.getD (i : Int).toNat 0).toNat : Int) = 41) (h32 : ¬ ((s.data.toList.getD (i : Int).toNat 0).toNat : Int) = 32) : SpI s (i + 1) o (wd ++ chS s i) := by
  rw [Int.toNat_natCast] at h40 h41 h32
  refine ⟨by omega, by have := hI.lo; omega, by rw [ByteArray.size_append, aX hs h]; have := hI.lw; omega, ?_⟩
  rw [hI.eq, uN h, u4, if_neg (by rw [isD_n h40 h41 h32]; exact Bool.false_ne_true), ByteArray.data_append, Array.toList_append, gO hs h]
theorem sp_B (hI : SpI s i o wd) (hs : s.size ≤ 1048576) (h : (i : Int) < s.size) (hd : n6 (s.data.toList.getD i 0) = true) : u4 [] s.data.toList = (o ++ (if wd.data.toList = [] then [] else [wd]) ++ (if s.data.toList.getD i 0 = 32 then [] else [chS s i])).map (·.data.toList) ++ u4 [] (s.data.toList.drop (i + 1)) := by
  rw [hI.eq, uN h, u4, if_pos hd, List.map_append, List.map_append]
  have e1 : (if wd.data.toList = [] then [] else [wd.data.toList]) = (if wd.data.toList = [] then [] else [wd]).map (·.data.toList) := by split <;> rfl
  have e2 : (if s.data.toList.getD i 0 = 32 then [] else [[s.data.toList.getD i 0]]) = (if s.data.toList.getD i 0 = 32 then [] else [chS s i]).map (·.data.toList) := by
    split
    · rfl
    · rw [List.map_cons, List.map_nil, gO hs h]
  rw [e1, e2, List.append_assoc, List.append_assoc]
theorem d40 {c : UInt8} (h : (c.toNat : Int) = 40) : n6 c = true ∧ c ≠ 32 := by rw [c_eq (n := 40) (by decide) h]; decide
theorem d41 {c : UInt8} (h : (c.toNat : Int) = 41) : n6 c = true ∧ c ≠ 32 := by rw [c_eq (n := 41) (by decide) h]; decide
theorem d32 {c : UInt8} (h : (c.toNat : Int) = 32) : n6 c = true ∧ c = 32 := by rw [c_eq (n := 32) (by decide) h]; decide
theorem sp_1 (hI : SpI s i o wd) (hs : s.size ≤ 1048576) (h : (i : Int) < s.size) (hd : n6 (s.data.toList.getD (i : Int).toNat 0) = true ∧ s.data.toList.getD (i : Int).toNat 0 ≠ 32) (hw : (wd.toList == (⟨#[]⟩ : ByteArray).toList) = false) : SpI s (i + 1) ((o ++ [wd]) ++ [chS s i]) ⟨#[]⟩ := by
  rw [Int.toNat_natCast] at hd
  have q := sp_B hI hs h hd.1
  rw [if_neg (wd_n hw), if_neg hd.2] at q
  exact ⟨by omega, by have := hI.lo; simp; omega, Nat.zero_le _, q⟩
theorem sp_2 (hI : SpI s i o wd) (hs : s.size ≤ 1048576) (h : (i : Int) < s.size) (hd : n6 (s.data.toList.getD (i : Int).toNat 0) = true ∧ s.data.toList.getD (i : Int).toNat 0 = 32) (hw : (wd.toList == (⟨#[]⟩ : ByteArray).toList) = false) : SpI s (i + 1) (o ++ [wd]) ⟨#[]⟩ := by
  rw [Int.toNat_natCast] at hd
  have q := sp_B hI hs h hd.1
  rw [if_neg (wd_n hw), if_pos hd.2, List.append_nil] at q
  exact ⟨by omega, by have := hI.lo; simp; omega, Nat.zero_le _, q⟩
theorem sp_3 (hI : SpI s i o wd) (hs : s.size ≤ 1048576) (h : (i : Int) < s.size) (hd : n6 (s.data.toList.getD (i : Int).toNat 0) = true ∧ s.data.toList.getD (i : Int).toNat 0 ≠ 32) (hw : (wd.toList == (⟨#[]⟩ : ByteArray).toList) = true) : SpI s (i + 1) (o ++ [chS s i]) wd := by
  rw [Int.toNat_natCast] at hd
  have q := sp_B hI hs h hd.1
  rw [if_pos (qF hw), if_neg hd.2, List.append_nil] at q
  exact ⟨by omega, by have := hI.lo; simp; omega, by have := hI.lw; omega, by rw [qF hw]; exact q⟩
theorem sp_4 (hI : SpI s i o wd) (hs : s.size ≤ 1048576) (h : (i : Int) < s.size) (hd : n6 (s.data.toList.getD (i : Int).toNat 0) = true ∧ s.data.toList.getD (i : Int).toNat 0 = 32) (hw : (wd.toList == (⟨#[]⟩ : ByteArray).toList) = true) : SpI s (i + 1) o wd := by
  rw [Int.toNat_natCast] at hd
  have q := sp_B hI hs h hd.1
  rw [if_pos (qF hw), if_pos hd.2, List.append_nil, List.append_nil] at q
  exact ⟨by omega, by have := hI.lo; omega, by have := hI.lw; omega, by rw [qF hw]; exact q⟩
end
noncomputable def q7 (s : ByteArray) : List ByteArray := (u4 [] s.data.toList).map m0
theorem bT (l : List ByteArray) : (l.map (·.data.toList)).map m0 = l := by rw [List.map_map]; exact List.map_id l
theorem sp_e1 {s : ByteArray} {i : Nat} {o : List ByteArray} {wd : ByteArray} (hI : SpI s i o wd) (h : ¬ (i : Int) < s.size) (hw : (wd.toList == (⟨#[]⟩ : ByteArray).toList) = false) : q7 s = o ++ [wd] := by
  have hl : s.data.toList.length = s.size := rfl
  have q := hI.eq
  rw [List.drop_eq_nil_of_le omG, u4, if_neg (wd_n hw)] at q
  unfold q7
  rw [q, List.map_append, bT]; rfl
theorem sp_e2 {s : ByteArray} {i : Nat} {o : List ByteArray} {wd : ByteArray} (hI : SpI s i o wd) (h : ¬ (i : Int) < s.size) (hw : (wd.toList == (⟨#[]⟩ : ByteArray).toList) = true) : q7 s = o := by
  have hl : s.data.toList.length = s.size := rfl
  have q := hI.eq
  rw [List.drop_eq_nil_of_le omG, u4, if_pos (qF hw), List.append_nil] at q
  unfold q7
  rw [q, bT]
theorem bd16 {a b : Nat} (ha : a ≤ 2097153) (hb : b ≤ 1) : (a + b) * 16 ≤ 140737488355328 := by omega
theorem bdM {a b : Nat} (ha : a ≤ 2097153) (hb : b ≤ 1048577) : a + b ≤ maxLen := by unfold maxLen; omega
theorem sp_l0 {s : ByteArray} {i : Nat} {o : List ByteArray} {wd : ByteArray} (hI : SpI s i o wd) (hs : s.size ≤ 1048576) : o.length ≤ 2097153 := by have := hI.lo; have := hI.le; omega
theorem sp_l1 {s : ByteArray} {i : Nat} {o : List ByteArray} {wd x : ByteArray} (hI : SpI s i o wd) (hs : s.size ≤ 1048576) : (o ++ [x]).length ≤ 2097153 := by have := hI.lo; have := hI.le; rw [List.length_append, List.length_cons, List.length_nil]; omega
theorem sp_lw {s : ByteArray} {i : Nat} {o : List ByteArray} {wd : ByteArray} (hI : SpI s i o wd) (hs : s.size ≤ 1048576) : wd.size ≤ 2097153 := by have := hI.lw; have := hI.le; omega
theorem rY (s : ByteArray) (hs : s.size ≤ 1048576) : CallsV Tryd.prog 9 [.dat (.str s)] (.dat (.seq .strs (q7 s))) := by
  refine oV Tryd.func9 ⟨?_⟩
  repeat' (first | ((with_reducible refine fun (K1 : KT) hK => ?_); refine i7 ⟨?_⟩) | ((with_reducible show K1 _ _); subst hK; conv => whnf) | (with_reducible exact rfl) | refine f4 ⟨?_⟩ | ((with_reducible refine SplS.mk (fun h => ?_) (fun h => ?_)) <;> first | exact g7 | (subst h; conv => whnf) | (conv => whnf)) | refine g5 ⟨?_⟩ ⟨?_⟩ | (refine Exists.intro ({x : Nat × List ByteArray × ByteArray // SpI s x.1 x.2.1 x.2.2}) (Exists.intro (fun ⟨⟨i, o, wd⟩, hI⟩ => x5 Tryd.f9.ntmps [(0, .dat (.str s)), (3, .row 6), (4, .dat (.str wd)), (5, .dat (.i i))] [(6, .row 9 .strs o false)]) (Exists.intro (fun ⟨⟨i, o, wd⟩, hI⟩ => s.size - i) (Exists.intro ⟨⟨0, [], ByteArray.empty⟩, sp_0 s⟩ (And.intro (SubP.sub (σ := [(6, some 6)]) ⟨⟨rfl, rfl, rfl⟩, ⟨j0 ?_, rfl, j0 ?_, j0 ?_, trivial⟩, ⟨⟨⟨rfl, rfl⟩, ?_⟩, trivial⟩⟩) (fun ⟨⟨i, o, wd⟩, hI⟩ => ?_))))); rotate_right; conv => whnf) | (refine Exists.intro (⟨⟨i + 1, ?_, ?_⟩, ?_⟩ : {x : Nat × List ByteArray × ByteArray // SpI s x.1 x.2.1 x.2.2}) (And.intro ?_ (SubP.sub (σ := [(6, some 6)]) ⟨⟨rfl, rfl, rfl⟩, ⟨j0 ?_, rfl, j0 ?_, j0 ?_, trivial⟩, ⟨⟨⟨rfl, rfl⟩, ?_⟩, trivial⟩⟩))) | (refine Exists.intro (⟨⟨i + 1, ?_, ?_⟩, ?_⟩ : {x : Nat × List ByteArray × ByteArray // SpI s x.1 x.2.1 x.2.2}) (And.intro ?_ (SubP.sub (σ := [(6, some 41)]) ⟨⟨rfl, rfl, rfl⟩, ⟨j0 ?_, rfl, j0 ?_, j0 ?_, trivial⟩, ⟨⟨⟨rfl, rfl⟩, ?_⟩, trivial⟩⟩))) | (refine Exists.intro (⟨⟨i + 1, ?_, ?_⟩, ?_⟩ : {x : Nat × List ByteArray × ByteArray // SpI s x.1 x.2.1 x.2.2}) (And.intro ?_ (SubP.sub (σ := [(6, some 53)]) ⟨⟨rfl, rfl, rfl⟩, ⟨j0 ?_, rfl, j0 ?_, j0 ?_, trivial⟩, ⟨⟨⟨rfl, rfl⟩, ?_⟩, trivial⟩⟩))) | (intro h; conv => whnf))
  all_goals repeat clear hK K1
  all_goals first | ((with_reducible show SpI _ _ _ _); dsimp only; first | exact sp_A hI hs asmR asmR asmR asmR | exact sp_1 hI hs asmR (d40 asmR) asmR | exact sp_1 hI hs asmR (d41 asmR) asmR | exact sp_2 hI hs asmR (d32 asmR) asmR | exact sp_3 hI hs asmR (d40 asmR) asmR | exact sp_3 hI hs asmR (d41 asmR) asmR | exact sp_4 hI hs asmR (d32 asmR) asmR | (exfalso; omega)) | ((with_reducible show Dat.int _ _ = Dat.int _ _); refine congrArg (Dat.int .i64) ?_; rw [g4 omG omG]; rfl) | ((with_reducible show Dat.seq _ _ = Dat.seq _ _); first | exact congrArg (Dat.seq K.strs) (sp_e1 hI asmR asmR) | exact congrArg (Dat.seq K.strs) (sp_e2 hI asmR asmR)) | ((with_reducible show (_ : Int) ≤ _); first | omega | (rw [g4 omG omG]; omega)) | ((with_reducible show (_ : Int) < _); first | (with_reducible assumption) | omega) | ((with_reducible show (_ : Nat) < _); dsimp only; omega) | ((with_reducible show _ ≤ maxLen); first | exact bdM (sp_lw hI hs) (by rw [aX hs asmR]; decide) | exact bdM (sp_l0 hI hs) (show 1 ≤ 1048577 by decide) | exact bdM (sp_l1 hI hs) (show 1 ≤ 1048577 by decide)) | exact rfl | exact bd16 (sp_l0 hI hs) (show 1 ≤ 1 by decide) | exact bd16 (sp_l1 hI hs) (show 1 ≤ 1 by decide) | skip
end Vg
