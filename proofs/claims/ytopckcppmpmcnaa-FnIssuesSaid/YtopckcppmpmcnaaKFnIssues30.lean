/- The total time and the stalls: what both sides come to. -/
import Derived.Test.YtopckcppmpmcnaaKFnIssues29
namespace Go.Proofs.Ytopckcppmpmcnaa.Q
open Go.RowKit Go.Proofs.YtopckcppmpmcnaaW.PrintWords Go.Proofs.YtopckcppmpmcnaaW.PrintLast Go.Proofs.YtopckcppmpmcnaaW.PrintMore
set_option linter.unusedVariables false
set_option linter.unusedSimpArgs false

/-- The state behind the first i instructions; the cycle of instruction i. -/
def stI (l : List S45) : Nat → List Int × Int
  | 0 => (b0, 0)
  | i + 1 => (itBoard (stI l i).1 (rd_T45 l (i : Int)) (itStep (stI l i).1 (stI l i).2 (rd_T45 l (i : Int))), itStep (stI l i).1 (stI l i).2 (rd_T45 l (i : Int)) + 1)
def tmI (l : List S45) (i : Nat) : Int := itStep (stI l i).1 (stI l i).2 (rd_T45 l (i : Int))
theorem its_at (l : List S45) : ∀ (d i j : Nat), l.length - i = d → i ≤ l.length → i + j < l.length → rd (its (l.drop i) (stI l i).1 (stI l i).2) (j : Int) = tmI l (i + j) := by
  intro d
  induction d with
  | zero => intro i j h1 h2 h3; omega
  | succ d ih =>
    intro i j h1 h2 h3
    rw [drop_at l i (by omega)]
    simp only [its]
    cases j with
    | zero => simp [rd, tmI]
    | succ j =>
      have := ih (i + 1) j (by omega) (by omega) (by omega)
      have e : i + 1 + j = i + (j + 1) := by omega
      rw [e] at this
      rw [← this]
      simp [rd, stI]
theorem itsZ_at (l : List S45) (h : lokB l = true) (j : Nat) (hj : j < l.length) : rd (itsZ l) (j : Int) = tmI l j := by
  unfold itsZ
  rw [if_pos h]
  have := its_at l l.length 0 j (by omega) (by omega) (by omega)
  simpa [stI] using this
theorem itsZ_length (l : List S45) (h : lokB l = true) : (itsZ l).length = l.length := by
  unfold itsZ; rw [if_pos h, its_len]
theorem stI_ok (l : List S45) : ∀ i : Nat, BoardOk (stI l i).1 (7 * i) ∧ 0 ≤ (stI l i).2 ∧ (stI l i).2 ≤ 7 * i
  | 0 => ⟨⟨rfl, fun y hy => by simp [stI, b0] at hy; omega⟩, by simp [stI], by simp [stI]⟩
  | i + 1 => by
    obtain ⟨h1, h2, h3⟩ := stI_ok l i
    have hs := itStep_bd h1 h2 h3 (rd_T45 l (i : Int))
    have hb := itBoard_ok h1 (by omega) hs.2 (rd_T45 l (i : Int))
    refine ⟨⟨hb.len, fun y hy => ?_⟩, ?_, ?_⟩
    · have := hb.bd y hy; omega
    · simp only [stI]; omega
    · simp only [stI]; omega
theorem tmI_bd (l : List S45) (i : Nat) : 0 ≤ tmI l i ∧ tmI l i ≤ 7 * i := by
  obtain ⟨h1, h2, h3⟩ := stI_ok l i
  have hs := itStep_bd h1 h2 h3 (rd_T45 l (i : Int))
  unfold tmI
  omega
end Go.Proofs.Ytopckcppmpmcnaa.Q
