/- The longest sums of latencies: what both CriticalPath functions come to. -/
import Derived.Test.YtopckcppmpmcnaaKFnExactResidentFor30
namespace Go.Proofs.Ytopckcppmpmcnaa.Q
open Go.RowKit Go.Proofs.YtopckcppmpmcnaaW.PrintWords Go.Proofs.YtopckcppmpmcnaaW.PrintLast Go.Proofs.YtopckcppmpmcnaaW.PrintMore
set_option linter.unusedVariables false
set_option linter.unusedSimpArgs false

theorem insGood_op {x : S45} (h : insGood x = true) : insOkB x.f0 x.f1 x.f2 x.f3 32 = true := by
  unfold insGood at h
  simp only [Bool.and_eq_true] at h
  exact h.1.1
/-- The registers of a valid instruction. -/
theorem uses_reg (x : S45) (h : insOkB x.f0 x.f1 x.f2 x.f3 32 = true) (y : Int) (hu : Uses x y) : 0 ≤ y ∧ y ≤ 3 := by
  obtain ⟨op, a, b, c⟩ := x
  unfold Uses regs wrReg at hu
  unfold insOkB at h
  dsimp only at h hu
  simp only [Bool.and_eq_true] at h
  obtain ⟨⟨⟨⟨h0, _⟩, h1⟩, h2⟩, h3⟩ := h
  have hb := (inR_iff _ _ _).mp h0
  have hcases : op = 0 ∨ op = 1 ∨ op = 2 ∨ op = 3 ∨ op = 4 ∨ op = 5 ∨ op = 6 ∨ op = 7 ∨ op = 8 ∨ op = 9 ∨ op = 10 ∨ op = 11 ∨ op = 12 ∨ op = 13 ∨ op = 14 ∨ op = 15 ∨ op = 16 := by omega
  rcases hcases with rfl | rfl | rfl | rfl | rfl | rfl | rfl | rfl | rfl | rfl | rfl | rfl | rfl | rfl | rfl | rfl | rfl
  all_goals
    simp [form3, fldB, regsOf, inR] at h1 h2 h3 hu
    try omega
theorem le_mx (a b B : Int) : mx a b ≤ B ↔ a ≤ B ∧ b ≤ B := by unfold mx; split <;> omega
theorem lat_bd (x : S45) : 1 ≤ latOf x ∧ latOf x ≤ 6 := by unfold latOf; split; (omega); (split <;> omega)
theorem lokB_len {l : List S45} (h : lokB l = true) : l.length ≤ 32 := by unfold lokB at h; simp only [Bool.and_eq_true, decide_eq_true_eq] at h; exact h.1
theorem lokB_good {l : List S45} (h : lokB l = true) (k : Nat) (hk : k < l.length) : insGood (rd_T45 l (k : Int)) = true := by
  unfold lokB at h
  simp only [Bool.and_eq_true, List.all_eq_true] at h
  rw [rdIns l k hk]
  exact h.2 _ (List.getElem_mem hk)
/-- The greatest of the items of E at the places of u; at least c. -/
def fmax (E : List Int) (c : Int) (u : List Int) : Int := u.foldl (fun m y => mx m (rd E y)) c
theorem fmax_le (E : List Int) (B : Int) : ∀ (u : List Int) (c : Int), fmax E c u ≤ B ↔ c ≤ B ∧ ∀ y ∈ u, rd E y ≤ B
  | [], c => by simp [fmax]
  | y :: r, c => by
    have ih := fmax_le E B r (mx c (rd E y))
    unfold fmax at ih ⊢
    rw [List.foldl_cons, ih, le_mx]
    constructor
    · rintro ⟨⟨h1, h2⟩, h3⟩
      refine ⟨h1, fun z hz => ?_⟩
      rcases List.mem_cons.mp hz with rfl | hz
      · exact h2
      · exact h3 z hz
    · rintro ⟨h1, h2⟩
      exact ⟨⟨h1, h2 y (by simp)⟩, fun z hz => h2 z (by simp [hz])⟩
end Go.Proofs.Ytopckcppmpmcnaa.Q
