/- impl.FormatInt: the library's numeral; its table of powers of ten stays as it is laid. -/
import Derived.Test.YtmnkbchieplicaaGreatDoorKFnExactFormatBlock06
import Derived.Lib.AppendIntMem
namespace Go.Proofs.YtmnkbchieplicaaGreatDoor.Q
open Go Go.RowKit Go.Proofs.YtmnkbchieplicaaGreatDoorW.PrintWords Go.Proofs.YtmnkbchieplicaaGreatDoorW.PrintLast Go.Proofs.YtmnkbchieplicaaGreatDoorW.PrintMore
set_option linter.unusedVariables false
set_option linter.unusedSimpArgs false

def impl_FormatInt.f (n : Int) : Option ByteArray := if -9223372036854775808 ≤ n ∧ n ≤ 9223372036854775807 then some ⟨(Lib.itoa n).toArray⟩ else none
set_option maxRecDepth 100000 in
theorem impl_FormatInt.calls (a0 : Int) (r : ByteArray) (w : World) (h : impl_FormatInt.f a0 = some r) (htab : PowIs w := by (apply PowIs.on; (refine Aside0.out ?_; assumption); repeat (first | (refine Aside0.out ?_; assumption) | apply below_alloc | apply pw_below_drewN | apply below_drew1 | (refine below_set ?_ (Aside0.out (by assumption)))))) :
  Calls Tryz.prog 17 #[.int .i64 a0] w fun e w' => e = .returned (.string r) ∧ Below w.heap.size w w' := by
 unfold impl_FormatInt.f at h
 by_cases hw : -9223372036854775808 ≤ a0 ∧ a0 ≤ 9223372036854775807
 ·rw [if_pos hw] at h; obtain rfl := Option.some.inj h; have HC := Aside0.mk (fun W (hh : PowIs W) => Any.strconv_Itoa Tryz.laysItoa a0 hw.1 hw.2 W hh.tab); have HT := Aside0.mk htab; clear h hw htab
  go_enter Tryz.func17, Tryz.ntmps17
  go_wp2_with fail
  refine (HC.out _ HT.out).mono ?_
  rintro e w1 ⟨rfl, k, os, rfl⟩; have HB := Aside0.mk (Lib.below_grow w.heap.size w (Nat.le_refl _) k os); generalize Sort.grow (w.drewN k) os = w1 at HB ⊢
  go_wp2_with fail
  go_ret
  exact ⟨rfl, bels⟩
 ·rw [if_neg hw] at h
  exact absurd h (by simp)

end Go.Proofs.YtmnkbchieplicaaGreatDoor.Q
