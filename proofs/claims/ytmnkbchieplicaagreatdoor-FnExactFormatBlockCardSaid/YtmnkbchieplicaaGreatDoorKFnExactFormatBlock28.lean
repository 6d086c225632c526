/- The plain machine's steps keep a block valid. No program in sight. -/
import Derived.Test.YtmnkbchieplicaaGreatDoorKFnExactFormatBlock27
namespace Go.Proofs.YtmnkbchieplicaaGreatDoor.Q
set_option linter.unusedVariables false
set_option linter.unusedSimpArgs false

/-! ### a block's step -/
def wrpM (b : MBlk) (k : Nat) : MWrp := b.f1.getD k ⟨0, [], []⟩
def waitsM (b : MBlk) (k : Nat) : Bool := b.f3.toNat.testBit k
def nextI (b : MBlk) (k : Nat) : MIns := insM b.f0 (topF (wrpM b k).f1).f0
def canM (b : MBlk) (k : Nat) : Bool :=
  let w := wrpM b k; let i := nextI b k
  !w.f1.isEmpty && !waitsM b k && (if i.f0 = 16 then decide (w.f1.length = 1) else if i.f0 ≤ 12 then !splitsM b.f0 w || decide (w.f1.length + 2 ≤ 24) else true)
def blkV (b : MBlk) : Prop :=
  progV b.f0 ∧ (1 ≤ b.f1.length ∧ b.f1.length ≤ 3) ∧ (b.f2.length = 32 ∧ ∀ x ∈ b.f2, isW x) ∧ (0 ≤ b.f3 ∧ b.f3.toNat + 2 ≤ 2 ^ b.f1.length) ∧ (0 ≤ b.f4 ∧ b.f4 ≤ 100000) ∧
  ∀ k, k < b.f1.length → wrpV b.f0 (wrpM b k) ∧ (wrpM b k).f0 = k
end Go.Proofs.YtmnkbchieplicaaGreatDoor.Q
