/- When instructions begin: what both IssueTimes functions come to. -/
import Derived.Test.YtopckcppmpmcnaaKFnExactResidentFor31
namespace Go.Proofs.Ytopckcppmpmcnaa.Q
open Go.RowKit Go.Proofs.YtopckcppmpmcnaaW.PrintWords Go.Proofs.YtopckcppmpmcnaaW.PrintLast Go.Proofs.YtopckcppmpmcnaaW.PrintMore
set_option linter.unusedVariables false
set_option linter.unusedSimpArgs false

/-- The cycle in which an instruction begins; the board behind it; the cycles of a list. -/
def itStep (b : List Int) (c : Int) (x : S45) : Int := mx c (fmax b 0 (usedL x))
def itBoard (b : List Int) (x : S45) (t : Int) : List Int := if wrReg x ≥ 0 then b.set (wrReg x).toNat (t + latOf x) else b
def its : List S45 → List Int → Int → List Int
  | [], _, _ => []
  | x :: l, b, c => itStep b c x :: its l (itBoard b x (itStep b c x)) (itStep b c x + 1)
def b0 : List Int := [0, 0, 0, 0]
/-- What the numbers of a board are bounded by. -/
structure BoardOk (b : List Int) (M : Int) : Prop where
  len : b.length = 4
  bd : ∀ y ∈ b, 0 ≤ y ∧ y ≤ M
theorem BoardOk.rd {b : List Int} {M : Int} (h : BoardOk b M) (hM : 0 ≤ M) (i : Int) : 0 ≤ rd b i ∧ rd b i ≤ M := by
  unfold Go.Proofs.YtopckcppmpmcnaaW.PrintWords.rd
  rw [List.getD_eq_getElem?_getD]
  cases hq : b[i.toNat]? with
  | none => simpa using hM
  | some v => simpa using h.bd v (List.mem_of_getElem? hq)
theorem uses_in {x : S45} (h : insGood x = true) : (usedL x).all (inR 0 3) = true := by
  rw [List.all_eq_true]
  intro y hy
  rw [mem_usedL] at hy
  exact (inR_iff _ _ _).2 (uses_reg x (insGood_op h) y hy)
theorem wr_lt {x : S45} (h : insGood x = true) (h0 : wrReg x ≥ 0) : wrReg x < 4 := by
  have := uses_reg x (insGood_op h) (wrReg x) (.inr ⟨by omega, rfl⟩)
  omega
theorem wrap_nat' (j : Nat) (h : j < 1000000) : wrap64 ((j : Int) + 1) = ((j + 1 : Nat) : Int) := by unfold wrap64; omega
theorem wrap_small {x : Int} (h0 : 0 ≤ x) (h1 : x ≤ 1000000) : wrap64 x = x := by unfold wrap64; omega
end Go.Proofs.Ytopckcppmpmcnaa.Q
