/- The library's builder of strings: contracts of its checks and writes. Condition: texts are not too long. -/
import Derived.Shelf.Strings.Builder1
import Derived.Test.YtgbjdifegilniaaGreatDoorBldG
import Derived.Test.YtgbjdifegilniaaGreatDoorTxtE
namespace Vg
open Go Go.Proofs Go.Shelf
set_option maxRecDepth 100000
set_option maxHeartbeats 40000000
def qan : Go.Shelf.Ren := ⟨fun | 240 => 77 | 276 => 100 | n => n, fun | 0 => 0 | 4 => 4 | 9 => 9 | 20 => 20 | 37 => 22 | 70 => 72 | 72 => 74 | 164 => 134 | n => n, fun | n => n⟩
theorem qao : Go.Proofs.Lays.n240 Tryz.prog qan := {
  mixed := by kernel_rfl
  f240 := Tryz.func77.trans (congrArg some (by kernel_rfl))
  f276 := Tryz.func100.trans (congrArg some (by kernel_rfl))
  t0 := Tryz.underlying0
  a0 := Tryz.isAgg0
  z0 := Tryz.sizeOf0
  v0 := Tryz.zeroValue0
  t4 := Tryz.underlying4
  a4 := Tryz.isAgg4
  z4 := Tryz.sizeOf4
  v4 := Tryz.zeroValue4
  t9 := Tryz.underlying9
  a9 := Tryz.isAgg9
  z9 := Tryz.sizeOf9
  v9 := Tryz.zeroValue9
  t20 := Tryz.underlying20
  a20 := Tryz.isAgg20
  z20 := Tryz.sizeOf20
  v20 := Tryz.zeroValue20
  t70 := Tryz.underlying72
  a70 := Tryz.isAgg72
  z70 := Tryz.sizeOf72
  v70 := Tryz.zeroValue72
  t72 := Tryz.underlying74
  a72 := Tryz.isAgg74
  z72 := Tryz.sizeOf74
  v72 := Tryz.zeroValue74
  t164 := Tryz.underlying134
  a164 := Tryz.isAgg134
  z164 := Tryz.sizeOf134
  v164 := Tryz.zeroValue134 }
theorem cc_X : Go.Proofs.Builder.X72 Tryz.prog qan := { sizeBuilder := by kernel_rfl, liesBuilder := by kernel_rfl }
theorem cc_used (b : Nat) (w : World) (h0 : w.cell? ⟨b, 0, none⟩ = some (.pointer (some ⟨b, 0, none⟩))) :
    Calls Tryz.prog 77 #[.pointer (some ⟨b, 0, none⟩)] w fun e w' => e = .returned (.tuple #[]) ∧ w' = w := Any.Builder_copyCheck_used qao cc_X b w h0
theorem qe1 (b : Nat) (w : World) (h0 : w.cell? ⟨b, 0, none⟩ = some (.pointer none)) (hsh : w.shape? b = some (74, 2)) (hfz : w.frozen? ⟨b, 0, none⟩ = false) :
    Calls Tryz.prog 77 #[.pointer (some ⟨b, 0, none⟩)] w fun e w' => e = .returned (.tuple #[]) ∧ w' = w.setCell ⟨b, 0, none⟩ (.pointer (some ⟨b, 0, none⟩)) := Any.Builder_copyCheck_fresh qao cc_X b w h0 hsh hfz
theorem g_cc0 : CallsG Tryz.prog 77 [.ptr 0 0] [.box [.nilp, .nils]] 1 (fun res B => res = .tup [] ∧ B = [.box [.ptr 0 0, .nils]]) :=
  qfe ⟨_, Tryz.func77, rfl, rfl⟩ fun b w h1 h2 h3 => qe1 b w h1 h2 h3
theorem g_ccU (l : List Int) : CallsG Tryz.prog 77 [.ptr 0 0] [.box [.ptr 0 0, .row 1], .row 5 .bytes l false] 2 (fun res B => res = .tup [] ∧ B = [.box [.ptr 0 0, .row 1], .row 5 .bytes l false]) :=
  qfd (bs := [.row 5 .bytes l false]) ⟨_, Tryz.func77, rfl, rfl⟩ fun b w h1 => cc_used b w h1
theorem sP (x : ByteArray) (hx : x.data.toList ≠ []) : CallsG Tryz.prog 33 [.ptr 0 0] [.box [.ptr 0 0, .row 1], .row 5 .bytes (m4 x) false] 0 (fun res B => res = .dat (.str x) ∧ B = []) :=
  bld_str hx ⟨_, Tryz.func33, rfl, rfl⟩ fun b g cap p cur Tb w h1 h2 h3 h4 h5 h6 => qff Tryz.lays169 Tryz.Builder_Extra_169 b g cap Tb p cur x w hx h1 h2 h3 h4 h5 h6
theorem qfb (a b : ByteArray) : m4 a ++ m4 b = m4 (a ++ b) := by unfold m4; rw [ByteArray.data_append, Array.toList_append, List.map_append]
theorem g_ws0 (x s : ByteArray) (hs : s.size ≤ 1048576) (hx0 : x = ByteArray.empty) : CallsG Tryz.prog 39 [.ptr 0 0, .dat (.str s)] [.box [.nilp, .nils]] 1 (fun res B => res = .tup [.dat (.i s.size), .dat (.err false)] ∧ B = [.box [.ptr 0 0, .row 1], .row 5 .bytes (m4 (x ++ s)) false]) := by
  refine oG Tryz.func39 ⟨?_⟩
  repeat' (first | ((with_reducible refine fun (K1 : KT) hK => ?_); (with_reducible refine j5 ?_ ?_); exact rfl; conv => whnf) | ((with_reducible refine fun (K1 : KT) hK => ?_); conv => whnf) | ((with_reducible show K1 _ _); subst hK; conv => whnf) | (with_reducible exact rfl) | (refine ⟨(rfl : d4 _ = true), rfl, ?_⟩; conv => whnf) | refine p3 ⟨?_⟩ ⟨?_⟩ | ((with_reducible refine j3 (g := 77) ?_); refine ⟨_, _, g_cc0 .., zV ?_⟩; rotate_right; conv => whnf) | ((with_reducible show d3 _ _ _ _ _ _); conv => whnf) | (intro h; conv => whnf))
  all_goals repeat clear hK K1
  all_goals first | omega | (rw [hx0, ByteArray.empty_append]; done) | skip
theorem aM (x s : ByteArray) (hx : x.size ≤ 1048576) (hs : s.size ≤ 1048576) : CallsG Tryz.prog 39 [.ptr 0 0, .dat (.str s)] [.box [.ptr 0 0, .row 1], .row 5 .bytes (m4 x) false] 1 (fun res B => res = .tup [.dat (.i s.size), .dat (.err false)] ∧ B = [.box [.ptr 0 0, .row 1], .row 5 .bytes (m4 (x ++ s)) false]) := by
  refine oG Tryz.func39 ⟨?_⟩
  repeat' (first | ((with_reducible refine fun (K1 : KT) hK => ?_); (with_reducible refine j5 ?_ ?_); exact rfl; conv => whnf) | ((with_reducible refine fun (K1 : KT) hK => ?_); conv => whnf) | ((with_reducible show K1 _ _); subst hK; conv => whnf) | (with_reducible exact rfl) | (refine ⟨(rfl : d4 _ = true), rfl, ?_⟩; conv => whnf) | refine p3 ⟨?_⟩ ⟨?_⟩ | ((with_reducible refine j3 (g := 77) ?_); refine ⟨_, _, g_ccU .., zV ?_⟩; rotate_right; conv => whnf) | ((with_reducible show d3 _ _ _ _ _ _); conv => whnf) | (intro h; conv => whnf))
  all_goals repeat clear hK K1
  all_goals first | (rw [nM]; omega) | (rw [← qfb]; done) | skip
end Vg
