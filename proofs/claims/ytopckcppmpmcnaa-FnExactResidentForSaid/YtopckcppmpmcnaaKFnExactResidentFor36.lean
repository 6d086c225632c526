/- The least number of warps: what both ResidentFor functions come to. -/
import Derived.Test.YtopckcppmpmcnaaKFnExactResidentFor35
namespace Go.Proofs.Ytopckcppmpmcnaa.Q
open Go.RowKit Go.Proofs.YtopckcppmpmcnaaW.PrintWords Go.Proofs.YtopckcppmpmcnaaW.PrintLast Go.Proofs.YtopckcppmpmcnaaW.PrintMore
set_option linter.unusedVariables false
set_option linter.unusedSimpArgs false

theorem run_len {l : List S45} {n : Nat} {pol : Int} {B : List (List Int)} {nx : List Int} {out : List S49} {fr t : Int} {F : List S49} (hr : Run l n pol B nx out fr t F) : F.length = n * l.length := by
  induction hr with
  | done B nx out fr t ho => exact ho
  | idle B nx out fr t F ho ht hpk _ ih => exact ih
  | step B nx out fr t F w ho ht hpk _ ih => exact ih
theorem residI (l : List S45) (hl : l.length ≤ 1048576) : ∃ r : Int, r ≠ 0 ∧ Ev (fun k => impl_ResidentFor.f k l) r ∧ Ev (fun k => spec_ResidentFor.f k l) r := by
  have e0 := impl_ListOk_ev l (by omega)
  have e1 := spec_ListOk_ev l (by omega)
  have hend : ∀ (c : Int), Ev (fun k => impl_ResidentFor.j1 k l c false) (-1) ∧ Ev (fun k => spec_ResidentFor.j1 k l c false) (-1) := by
    intro c
    exact ⟨Ev.step (f := fun _ => some (-1)) (fun k => by simp [impl_ResidentFor.j1]) (Ev.now _), Ev.step (f := fun _ => some (-1)) (fun k => by simp [spec_ResidentFor.j1]) (Ev.now _)⟩
  by_cases hok : lokB l = true
  · rw [hok] at e0 e1
    have hl32 := lokB_len hok
    have key : ∀ (d n : Nat), n + d = 9 → 1 ≤ n → ∃ r : Int, r ≠ 0 ∧ Ev (fun k => impl_ResidentFor.l0 k l (n : Int)) r ∧ Ev (fun k => spec_ResidentFor.l0 k l (n : Int)) r := by
      intro d
      induction d with
      | zero =>
        intro n hn h1
        have c : ¬ (n : Int) ≤ 8 := by omega
        refine ⟨-1, by omega, Ev.step (fun k => ?_) (hend (n : Int)).1, Ev.step (fun k => ?_) (hend (n : Int)).2⟩
        · simp only [impl_ResidentFor.l0]; rw [if_neg c]
        · simp only [spec_ResidentFor.l0]; rw [if_neg c]
      | succ d ih =>
        intro n hn h1
        obtain ⟨F, hF, g1, g2⟩ := sched_ex l hok n h1 (by omega) 1 (by decide)
        have hn8 : n * l.length ≤ 8 * 32 := Nat.mul_le_mul (by omega) hl32
        have hFl : F.length ≤ 1099511627776 := by rw [run_len hF]; exact Nat.le_trans hn8 (by decide)
        have g3 : impl_IdleCycles.f F = some (cycIdle F) := by unfold impl_IdleCycles.f; rw [if_pos hFl]
        have g4 := spec_IdleCycles_ev F hFl
        obtain ⟨r, hr, i1, i2⟩ := ih (n + 1) (by omega) (by omega)
        have c : (n : Int) ≤ 8 := by omega
        have a : n < 1000000 := by omega
        have ew := wrap_nat' n a
        by_cases hz : cycIdle F = 0
        · refine ⟨(n : Int), by clear ew; omega, ?_, ?_⟩
          · refine Ev.step (f := fun k => (impl_ListOk.f k l).bind fun t => impl_ResidentFor.j1 k l n t) (fun k => by simp only [impl_ResidentFor.l0]; rw [if_pos c]) (Ev.bind e0 ?_)
            refine Ev.step (f := fun k => (impl_IssueAll.f k l n 1).bind fun t535 => ((impl_IdleCycles.f t535).bind fun t538 => (if t538 = 0 then (some (n : Int)) else (impl_ResidentFor.l0 k l (wrap64 ((n : Int) + 1)))))) (fun k => by simp only [impl_ResidentFor.j1, if_true]) (Ev.bind g1 ?_)
            simp only [g3, Option.bind_some, hz, if_true]
            exact Ev.now _
          · refine Ev.step (f := fun k => (spec_ListOk.f k l).bind fun t => spec_ResidentFor.j1 k l n t) (fun k => by simp only [spec_ResidentFor.l0]; rw [if_pos c]) (Ev.bind e1 ?_)
            refine Ev.step (f := fun k => (spec_l36Issue.f k l n 1).bind fun t530 => ((spec_IdleCycles.f k t530).bind fun t533 => (if t533 = 0 then (some (n : Int)) else (spec_ResidentFor.l0 k l (wrap64 ((n : Int) + 1)))))) (fun k => by simp only [spec_ResidentFor.j1, if_true]) (Ev.bind g2 (Ev.bind g4 ?_))
            simp only [hz, if_true]
            exact Ev.now _
        · refine ⟨r, hr, ?_, ?_⟩
          · refine Ev.step (f := fun k => (impl_ListOk.f k l).bind fun t => impl_ResidentFor.j1 k l n t) (fun k => by simp only [impl_ResidentFor.l0]; rw [if_pos c]) (Ev.bind e0 ?_)
            refine Ev.step (f := fun k => (impl_IssueAll.f k l n 1).bind fun t535 => ((impl_IdleCycles.f t535).bind fun t538 => (if t538 = 0 then (some (n : Int)) else (impl_ResidentFor.l0 k l (wrap64 ((n : Int) + 1)))))) (fun k => by simp only [impl_ResidentFor.j1, if_true]) (Ev.bind g1 ?_)
            simp only [g3, Option.bind_some, if_neg hz, ew]
            exact i1
          · refine Ev.step (f := fun k => (spec_ListOk.f k l).bind fun t => spec_ResidentFor.j1 k l n t) (fun k => by simp only [spec_ResidentFor.l0]; rw [if_pos c]) (Ev.bind e1 ?_)
            refine Ev.step (f := fun k => (spec_l36Issue.f k l n 1).bind fun t530 => ((spec_IdleCycles.f k t530).bind fun t533 => (if t533 = 0 then (some (n : Int)) else (spec_ResidentFor.l0 k l (wrap64 ((n : Int) + 1)))))) (fun k => by simp only [spec_ResidentFor.j1, if_true]) (Ev.bind g2 (Ev.bind g4 ?_))
            simp only [if_neg hz, ew]
            exact i2
    exact key 8 1 (by omega) (by omega)
  · have hf : lokB l = false := by simpa using hok
    rw [hf] at e0 e1
    have c : (1 : Int) ≤ 8 := by omega
    refine ⟨-1, by omega, ?_, ?_⟩
    · exact Ev.step (f := fun k => (impl_ListOk.f k l).bind fun t => impl_ResidentFor.j1 k l 1 t) (fun k => by unfold impl_ResidentFor.f; simp only [impl_ResidentFor.l0]; rw [if_pos c]) (Ev.bind e0 (hend 1).1)
    · exact Ev.step (f := fun k => (spec_ListOk.f k l).bind fun t => spec_ResidentFor.j1 k l 1 t) (fun k => by unfold spec_ResidentFor.f; simp only [spec_ResidentFor.l0]; rw [if_pos c]) (Ev.bind e1 (hend 1).2)

end Go.Proofs.Ytopckcppmpmcnaa.Q
