/- When an instruction is valid: the program's and the reference's test alike. -/
import Derived.Test.YtmnkbchieplicaaGreatDoorKFnExactFormatBlock25
import Derived.Laws.Strings

namespace Go.Proofs.YtmnkbchieplicaaGreatDoor.Q
open Go.RowKit Go.Proofs.YtmnkbchieplicaaGreatDoorW.PrintWords Go.Proofs.YtmnkbchieplicaaGreatDoorW.PrintLast Go.Proofs.YtmnkbchieplicaaGreatDoorW.PrintMore
set_option linter.unusedVariables false
set_option linter.unusedSimpArgs false

def fldB (f : Nat) (n size : Int) : Bool := if f = 82 then inR 0 3 n else if f = 87 then inR 0 65535 n else if f = 84 then inR 0 size n else decide (n = 0)
/-- The form of an operation: three letters. -/
def form3 (op : Int) : Nat × Nat × Nat :=
  if op = 1 then (82, 87, 45) else if op = 2 then (82, 82, 45) else if op = 8 then (82, 45, 45) else if op = 10 then (82, 84, 45) else if op = 11 then (45, 84, 45)
  else if op = 13 then (82, 82, 45) else if op = 14 then (82, 82, 45) else if op = 15 then (82, 82, 45) else if inR 3 9 op = true then (82, 82, 82) else (45, 45, 45)
def insOkB (op a b c size : Int) : Bool := inR 0 16 op && inR 0 32 size && fldB (form3 op).1 a size && fldB (form3 op).2.1 b size && fldB (form3 op).2.2 c size
theorem isField_f (f : Nat) (n size : Int) : impl_isField.f (f : Int) n size = some (fldB f n size) := by
  unfold impl_isField.f impl_isReg.f impl_IsWord.f fldB
  simp only [within_f, Option.bind_some]
  by_cases h1 : f = 82
  · subst h1; rfl
  · rw [if_neg (by omega), if_neg h1]
    by_cases h2 : f = 87
    · subst h2; rfl
    · rw [if_neg (by omega), if_neg h2]
      by_cases h3 : f = 84
      · subst h3; rfl
      · rw [if_neg (by omega), if_neg h3]
        by_cases h4 : n = 0
        · subst h4; rfl
        · have : (n == 0) = false := by simpa using h4
          rw [this, decide_eq_false h4]
theorem ins3 (s : ByteArray) (x y z : Nat) (a b c size : Int) (h0 : s.size = 3) (h1 : bt s 0 = (x : Int)) (h2 : bt s 1 = (y : Int)) (h3 : bt s 2 = (z : Int)) (hne : s.toList ≠ ([] : List UInt8)) :
    (if s.toList = ([] : List UInt8) then (some false : Option Bool) else ((impl_within.f size 0 32).bind fun t144 => (if t144 = true then (if 0 < (s.size : Int) then ((impl_isField.f (bt s 0) a size).bind fun t145 => (if t145 = true then (if 1 < (s.size : Int) then ((impl_isField.f (bt s 1) b size).bind fun t146 => (if t146 = true then (if 2 < (s.size : Int) then ((impl_isField.f (bt s 2) c size).bind fun t147 => (some t147)) else (none)) else (some false))) else (none)) else (some false))) else (none)) else (some false))))
      = some (inR 0 32 size && fldB x a size && fldB y b size && fldB z c size) := by
  rw [if_neg hne, h1, h2, h3, within_f, h0]
  simp only [isField_f, Option.bind_some]
  cases inR 0 32 size <;> cases fldB x a size <;> cases fldB y b size <;> simp
theorem insOk_f (op a b c size : Int) : impl_InsOk.f op a b c size = some (insOkB op a b c size) := by
  unfold impl_InsOk.f impl_formOf.f insOkB
  rw [within_f, Option.bind_some]
  by_cases hop : inR 0 16 op = true
  · rw [if_pos hop, hop, Bool.true_and]
    have hb := (inR_iff _ _ _).mp hop
    have hcases : op = 0 ∨ op = 1 ∨ op = 2 ∨ op = 3 ∨ op = 4 ∨ op = 5 ∨ op = 6 ∨ op = 7 ∨ op = 8 ∨ op = 9 ∨ op = 10 ∨ op = 11 ∨ op = 12 ∨ op = 13 ∨ op = 14 ∨ op = 15 ∨ op = 16 := by omega
    rcases hcases with rfl | rfl | rfl | rfl | rfl | rfl | rfl | rfl | rfl | rfl | rfl | rfl | rfl | rfl | rfl | rfl | rfl
    all_goals
      simp only [Option.bind_some]
      rw [if_pos (by decide), if_pos (by simp), Option.bind_some]
      refine ins3 _ _ _ _ a b c size (by first | rfl | decide) (by first | rfl | decide) (by first | rfl | decide) (by first | rfl | decide) (by rw [Go.ByteArray.toList_eq]; decide)
  · rw [if_neg hop, Option.bind_some, Bool.eq_false_iff.mpr hop, Bool.false_and, Bool.false_and, Bool.false_and, Bool.false_and, if_pos (by rw [Go.ByteArray.toList_eq])]
theorem spec_insOk_ev (op a b c size : Int) : ∀ k, 3 ≤ k → spec_InsOk.f k op a b c size = some (insOkB op a b c size) := by
  intro k hk
  obtain ⟨k, rfl⟩ : ∃ m, k = m + 3 := ⟨k - 3, by omega⟩
  unfold spec_InsOk.f insOkB
  rw [l01In_f, Option.bind_some]
  cases hs : inR 0 32 size
  · simp
  · have e45 : ∀ n sz : Int, fldB 45 n sz = (n == 0) := fun n sz => by
      have : fldB 45 n sz = decide (n = 0) := rfl
      rw [this]; by_cases h : n = 0 <;> simp [h]
    have e82 : ∀ n sz : Int, fldB 82 n sz = inR 0 3 n := fun n sz => rfl
    have e87 : ∀ n sz : Int, fldB 87 n sz = inR 0 65535 n := fun n sz => rfl
    have e84 : ∀ n sz : Int, fldB 84 n sz = inR 0 sz n := fun n sz => rfl
    by_cases hop : inR 0 16 op = true
    · have hb := (inR_iff _ _ _).mp hop
      have hcases : op = 0 ∨ op = 1 ∨ op = 2 ∨ op = 3 ∨ op = 4 ∨ op = 5 ∨ op = 6 ∨ op = 7 ∨ op = 8 ∨ op = 9 ∨ op = 10 ∨ op = 11 ∨ op = 12 ∨ op = 13 ∨ op = 14 ∨ op = 15 ∨ op = 16 := by omega
      rcases hcases with rfl | rfl | rfl | rfl | rfl | rfl | rfl | rfl | rfl | rfl | rfl | rfl | rfl | rfl | rfl | rfl | rfl
      all_goals
        simp only [spec_InsOk.j0, spec_InsOk.j1, spec_l04Reg.f, spec_IsWord.f, l01In_f, Option.bind_some]
        simp [form3, e45, e82, e87, e84, inR]
      all_goals (repeat' split) <;> simp_all
      all_goals omega
    · have hn := hop
      rw [inR_iff] at hn
      have h0 : inR 3 9 op = false := by rw [inR_false]; omega
      rw [Bool.eq_false_iff.mpr hop]
      have n0 : op ≠ 0 := by omega
      have n1 : op ≠ 1 := by omega
      have n2 : op ≠ 2 := by omega
      have n8 : op ≠ 8 := by omega
      have n10 : op ≠ 10 := by omega
      have n11 : op ≠ 11 := by omega
      have n12 : op ≠ 12 := by omega
      have n13 : op ≠ 13 := by omega
      have n14 : op ≠ 14 := by omega
      have n15 : op ≠ 15 := by omega
      have n16 : op ≠ 16 := by omega
      simp [spec_InsOk.j0, spec_InsOk.j1, spec_l04Reg.f, spec_IsWord.f, l01In_f, n0, n1, n2, n8, n10, n11, n12, n13, n14, n15, n16, h0]

end Go.Proofs.YtmnkbchieplicaaGreatDoor.Q
