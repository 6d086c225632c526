/- impl.(Warp).lane: the registers of a lane, in place. -/
import Derived.Test.YtmnkbchieplicaaGreatDoorKFnExactFormatBlock15
namespace Go.Proofs.YtmnkbchieplicaaGreatDoor.Q
open Go Go.RowKit Go.Proofs.YtmnkbchieplicaaGreatDoorW.PrintWords Go.Proofs.YtmnkbchieplicaaGreatDoorW.PrintLast Go.Proofs.YtmnkbchieplicaaGreatDoorW.PrintMore
set_option linter.unusedVariables false
set_option linter.unusedSimpArgs false

theorem addr_add2 (a : Addr) (m n : Nat) : (a.add m).add n = a.add (m + n) := by
 unfold Addr.add
 by_cases h1 : m = 0
 ·simp [h1]
 ·by_cases h2 : n = 0
  ·simp [h1, h2]
  ·rw [if_neg h1, if_neg h2, if_neg (by omega)]; simp; omega
set_option maxRecDepth 100000 in
theorem lane_calls (num : Int) (AF : Option Addr) (nF cF : Nat) (ad : Addr) (nR cR : Nat) (l : Int) (W : World) (h0 : 0 ≤ l) (h1 : l ≤ 7) (hc : 32 ≤ cR) :
  Calls Tryz.prog 159 #[.agg #[.int .i64 num, .slice AF nF cF, .slice (some ad) nR cR], .int .i64 l] W fun e W' => e = .returned (.slice (some (ad.add (l.toNat * 4))) 4 (cR - l.toNat * 4)) ∧ Below W.heap.size W W' := by
 have hu := Tryz.underlying59; have HB := Aside0.mk (Below.refl W.heap.size W)
 have e1 : wrap64 (l * 4) = l * 4 := by unfold wrap64; omega
 have e2 : wrap64 (wrap64 (l + 1) * 4) = l * 4 + 4 := by unfold wrap64; omega
 go_enter Tryz.func159, Tryz.ntmps159
 go_wp2_with fail
 go_ret
 exact ⟨by first | (simp [show (l * 4).toNat = l.toNat * 4 from by omega]; omega), bels⟩

end Go.Proofs.YtmnkbchieplicaaGreatDoor.Q
