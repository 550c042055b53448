/- The library's builder of strings: contracts of its checks and writes. Condition: texts are not too long. -/
import Derived.Shelf.Strings.Builder1
import Derived.Test.YtcdepophgnlphaaDoorBldG
import Derived.Test.YtcdepophgnlphaaDoorTxtE
namespace Vg
open Go Go.Proofs Go.Shelf
set_option maxRecDepth 100000
set_option maxHeartbeats 40000000
def dX : Go.Shelf.Ren := ⟨fun | 240 => 60 | 276 => 65 | n => n, fun | 0 => 0 | 4 => 4 | 9 => 9 | 20 => 20 | 37 => 64 | 70 => 63 | 72 => 66 | 164 => 87 | n => n, fun | n => n⟩
theorem eX : Go.Proofs.Lays.n240 Tryd.prog dX := {
  mixed := by kernel_rfl
  f240 := Tryd.func60.trans (congrArg some (by kernel_rfl))
  f276 := Tryd.func65.trans (congrArg some (by kernel_rfl))
  t0 := Tryd.underlying0
  a0 := Tryd.isAgg0
  z0 := Tryd.sizeOf0
  v0 := Tryd.zeroValue0
  t4 := Tryd.underlying4
  a4 := Tryd.isAgg4
  z4 := Tryd.sizeOf4
  v4 := Tryd.zeroValue4
  t9 := Tryd.underlying9
  a9 := Tryd.isAgg9
  z9 := Tryd.sizeOf9
  v9 := Tryd.zeroValue9
  t20 := Tryd.underlying20
  a20 := Tryd.isAgg20
  z20 := Tryd.sizeOf20
  v20 := Tryd.zeroValue20
  t70 := Tryd.underlying63
  a70 := Tryd.isAgg63
  z70 := Tryd.sizeOf63
  v70 := Tryd.zeroValue63
  t72 := Tryd.underlying66
  a72 := Tryd.isAgg66
  z72 := Tryd.sizeOf66
  v72 := Tryd.zeroValue66
  t164 := Tryd.underlying87
  a164 := Tryd.isAgg87
  z164 := Tryd.sizeOf87
  v164 := Tryd.zeroValue87 }
theorem cc_X : Go.Proofs.Builder.X72 Tryd.prog dX := { sizeBuilder := by kernel_rfl, liesBuilder := by kernel_rfl }
theorem cc_used (b : Nat) (w : World) (h0 : w.cell? ⟨b, 0, none⟩ = some (.pointer (some ⟨b, 0, none⟩))) :
    Calls Tryd.prog 60 #[.pointer (some ⟨b, 0, none⟩)] w fun e w' => e = .returned (.tuple #[]) ∧ w' = w := Any.Builder_copyCheck_used eX cc_X b w h0
theorem qbw (b : Nat) (w : World) (h0 : w.cell? ⟨b, 0, none⟩ = some (.pointer none)) (hsh : w.shape? b = some (66, 2)) (hfz : w.frozen? ⟨b, 0, none⟩ = false) :
    Calls Tryd.prog 60 #[.pointer (some ⟨b, 0, none⟩)] w fun e w' => e = .returned (.tuple #[]) ∧ w' = w.setCell ⟨b, 0, none⟩ (.pointer (some ⟨b, 0, none⟩)) := Any.Builder_copyCheck_fresh eX cc_X b w h0 hsh hfz
theorem g_cc0 : CallsG Tryd.prog 60 [.ptr 0 0] [.box [.nilp, .nils]] 1 (fun res B => res = .tup [] ∧ B = [.box [.ptr 0 0, .nils]]) :=
  qb2 ⟨_, Tryd.func60, rfl, rfl⟩ fun b w h1 h2 h3 => qbw b w h1 h2 h3
theorem g_ccU (l : List Int) : CallsG Tryd.prog 60 [.ptr 0 0] [.box [.ptr 0 0, .row 1], .row 5 .bytes l false] 2 (fun res B => res = .tup [] ∧ B = [.box [.ptr 0 0, .row 1], .row 5 .bytes l false]) :=
  qb1 (bs := [.row 5 .bytes l false]) ⟨_, Tryd.func60, rfl, rfl⟩ fun b w h1 => cc_used b w h1
theorem g_str (x : ByteArray) (hx : x.data.toList ≠ []) : CallsG Tryd.prog 38 [.ptr 0 0] [.box [.ptr 0 0, .row 1], .row 5 .bytes (j4 x) false] 0 (fun res B => res = .dat (.str x) ∧ B = []) :=
  bld_str hx ⟨_, Tryd.func38, rfl, rfl⟩ fun b g cap p cur Tb w h1 h2 h3 h4 h5 h6 => qb3 Tryd.lays169 Tryd.Builder_Extra_169 b g cap Tb p cur x w hx h1 h2 h3 h4 h5 h6
theorem qbz (a b : ByteArray) : j4 a ++ j4 b = j4 (a ++ b) := by unfold j4; rw [ByteArray.data_append, Array.toList_append, List.map_append]
theorem g_ws0 (x s : ByteArray) (hs : s.size ≤ 1048576) (hx0 : x = ByteArray.empty) : CallsG Tryd.prog 53 [.ptr 0 0, .dat (.str s)] [.box [.nilp, .nils]] 1 (fun res B => res = .tup [.dat (.i s.size), .dat (.err false)] ∧ B = [.box [.ptr 0 0, .row 1], .row 5 .bytes (j4 (x ++ s)) false]) := by
  refine oG Tryd.func53 ⟨?_⟩
  repeat' (first | ((with_reducible refine fun (K1 : KT) hK => ?_); refine i7 ⟨?_⟩) | ((with_reducible show K1 _ _); subst hK; conv => whnf) | (with_reducible exact rfl) | refine f4 ⟨?_⟩ | ((with_reducible refine SplS.mk (fun h => ?_) (fun h => ?_)) <;> first | exact g7 | (subst h; conv => whnf) | (conv => whnf)) | refine g5 ⟨?_⟩ ⟨?_⟩ | ((with_reducible refine d6 (g := 60) ?_); refine ⟨_, _, g_cc0 .., zV ?_⟩; rotate_right; conv => whnf) | (intro h; conv => whnf))
  all_goals repeat clear hK K1
  all_goals first | omega | (rw [hx0, ByteArray.empty_append]; done) | skip
theorem g_wsU (x s : ByteArray) (hx : x.size ≤ 1048576) (hs : s.size ≤ 1048576) : CallsG Tryd.prog 53 [.ptr 0 0, .dat (.str s)] [.box [.ptr 0 0, .row 1], .row 5 .bytes (j4 x) false] 1 (fun res B => res = .tup [.dat (.i s.size), .dat (.err false)] ∧ B = [.box [.ptr 0 0, .row 1], .row 5 .bytes (j4 (x ++ s)) false]) := by
  refine oG Tryd.func53 ⟨?_⟩
  repeat' (first | ((with_reducible refine fun (K1 : KT) hK => ?_); refine i7 ⟨?_⟩) | ((with_reducible show K1 _ _); subst hK; conv => whnf) | (with_reducible exact rfl) | refine f4 ⟨?_⟩ | ((with_reducible refine SplS.mk (fun h => ?_) (fun h => ?_)) <;> first | exact g7 | (subst h; conv => whnf) | (conv => whnf)) | refine g5 ⟨?_⟩ ⟨?_⟩ | ((with_reducible refine d6 (g := 60) ?_); refine ⟨_, _, g_ccU .., zV ?_⟩; rotate_right; conv => whnf) | (intro h; conv => whnf))
  all_goals repeat clear hK K1
  all_goals first | (rw [fK]; omega) | (rw [← qbz]; done) | skip
end Vg
