/- Sums of whole numbers, and reading at a place: plain words. -/
import Derived.Test.YtopckcppmpmcnaaKFnExactResidentFor24
namespace Go.Proofs.Ytopckcppmpmcnaa.Q
open Go.RowKit Go.Proofs.YtopckcppmpmcnaaW.PrintWords Go.Proofs.YtopckcppmpmcnaaW.PrintLast Go.Proofs.YtopckcppmpmcnaaW.PrintMore
set_option linter.unusedVariables false
set_option linter.unusedSimpArgs false

theorem le_mx1 (a b : Int) : a ≤ mx a b := by unfold mx; split <;> omega
theorem le_mx2 (a b : Int) : b ≤ mx a b := by unfold mx; split <;> omega
theorem rd_mem (t : List Int) (i : Nat) (h : i < t.length) : rd t (i : Int) ∈ t := by rw [rd_at t i h]; exact List.getElem_mem h
def tot : List Int → Int
  | [] => 0
  | x :: l => x + tot l
theorem tot_set : ∀ (s : List Int) (i : Nat) (v : Int), i < s.length → tot (s.set i v) = tot s - rd s (i : Int) + v
  | [], i, v, h => by simp at h
  | x :: s, 0, v, h => by simp [tot, rd]; omega
  | x :: s, i + 1, v, h => by
    have ih := tot_set s i v (by simpa using h)
    have e : rd (x :: s) ((i + 1 : Nat) : Int) = rd s (i : Int) := by simp [rd]
    simp only [List.set_cons_succ, tot, ih, e]; omega
theorem tot_ge (m : Int) : ∀ (s : List Int), (∀ x ∈ s, m ≤ x) → s.length * m ≤ tot s
  | [], _ => by simp [tot]
  | x :: s, h => by
    have ih := tot_ge m s (fun y hy => h y (by simp [hy]))
    have hx := h x (by simp)
    simp only [List.length_cons, tot]
    have : ((s.length + 1 : Nat) : Int) * m = (s.length : Int) * m + m := by rw [Int.natCast_add, Int.add_mul]; simp
    rw [this]; omega
theorem tot_zeros (n : Nat) : tot (List.replicate n 0) = 0 := by
  induction n with
  | zero => rfl
  | succ n ih => simp [List.replicate_succ, tot, ih]

theorem mem_rd {s : List Int} {x : Int} (h : x ∈ s) : ∃ i : Nat, i < s.length ∧ rd s (i : Int) = x := by
  obtain ⟨i, hi, rfl⟩ := List.getElem_of_mem h
  exact ⟨i, hi, by simp [rd, List.getD_eq_getElem?_getD, hi]⟩
theorem rd_set (s : List Int) (i j : Nat) (v : Int) (hi : i < s.length) : rd (s.set i v) (j : Int) = if j = i then v else rd s (j : Int) := by
  unfold rd
  simp only [Int.toNat_natCast, List.getD_eq_getElem?_getD, List.getElem?_set]
  by_cases h : i = j
  · subst h; simp [hi]
  · simp [h, Ne.symm h]

end Go.Proofs.Ytopckcppmpmcnaa.Q
