/- Contracts of functions of the program and of the laws, written by program out of the translation; conditions: as each theorem says. -/
import Derived.Test.YtopckcppmpmcnaaKFnHiding37
namespace Go.Proofs.Ytopckcppmpmcnaa.Q
open Go.RowKit Go.Proofs.YtopckcppmpmcnaaW.PrintWords Go.Proofs.YtopckcppmpmcnaaW.PrintLast Go.Proofs.YtopckcppmpmcnaaW.PrintMore
attribute [local go_sem] max2_int min2_int max_two min_two max_three min_three max_four min_four   -- for this text's walks alone
set_option linter.unusedVariables false
set_option linter.unusedSimpArgs false

/-! ### spec_l36Ok: function 87 -/
def spec_l36Ok.l0 : Nat → List (S49) → Int → Option (Bool)
 | 0, _, _ => none
 | k + 1, x0, x3 => if x3 < (x0.length : Int) then (if 0 ≤ x3 then ((spec_l01In.f ((rd_T49 x0 x3).f0) 0 1000000).bind fun t517 => (if t517 = true then (spec_l36Ok.l0 k x0 (wrap64 (x3 + 1))) else (some false))) else (none)) else (some true)
def spec_l36Ok.f (k : Nat) (l0 : List (S49)) : Option (Bool) := spec_l36Ok.l0 k l0 0
theorem spec_l36Ok.mono_l : ∀ k, (∀ y0 y1, LeO (spec_l36Ok.l0 k y0 y1) (spec_l36Ok.l0 (k + 1) y0 y1))
 | 0 => fun _ _ r h => by simp [spec_l36Ok.l0] at h
 | k + 1 => by
  have ih0 := spec_l36Ok.mono_l k
  ·
   intro y0 y1
   unfold spec_l36Ok.l0
   repeat' first
   | (with_reducible exact ih0 _ _)
   | (with_reducible exact LeO.refl _)
   | (with_reducible exact LeO.none _)
   | (with_reducible refine LeO.ite ?_ ?_)
   | (with_reducible refine LeO.bind ?_ (fun _ => ?_))
   | exact ih0 _ _
   | exact LeO.none _
   | refine LeO.ite ?_ ?_
   | refine LeO.bind ?_ (fun _ => ?_)
theorem spec_l36Ok.mono : ∀ a0 k, LeO (spec_l36Ok.f k a0) (spec_l36Ok.f (k + 1) a0) := by
 intro a0 k
 have ih0 := spec_l36Ok.mono_l k
 unfold spec_l36Ok.f
 repeat' first
   | (with_reducible exact ih0 _ _)
   | (with_reducible exact LeO.refl _)
   | (with_reducible exact LeO.none _)
   | (with_reducible refine LeO.ite ?_ ?_)
   | (with_reducible refine LeO.bind ?_ (fun _ => ?_))
   | exact ih0 _ _
   | exact LeO.none _
   | refine LeO.ite ?_ ?_
   | refine LeO.bind ?_ (fun _ => ?_)
/-! ### spec_CyclesOf: function 54 -/
def spec_CyclesOf.l0 : Nat → List (S49) → Int → Int → Option (Int)
 | 0, _, _, _ => none
 | k + 1, x0, x3, x4 => if x4 < (x0.length : Int) then ((spec_l36Ok.f k x0).bind fun t518 => (if t518 = true then (if 0 ≤ x4 then (spec_CyclesOf.l0 k x0 (mx x3 (wrap64 (((rd_T49 x0 x4).f0) + 1))) (wrap64 (x4 + 1))) else (none)) else (some x3))) else (some x3)
def spec_CyclesOf.f (k : Nat) (l0 : List (S49)) : Option (Int) := spec_CyclesOf.l0 k l0 0 0
theorem spec_CyclesOf.mono_l : ∀ k, (∀ y0 y1 y2, LeO (spec_CyclesOf.l0 k y0 y1 y2) (spec_CyclesOf.l0 (k + 1) y0 y1 y2))
 | 0 => fun _ _ _ r h => by simp [spec_CyclesOf.l0] at h
 | k + 1 => by
  have ih0 := spec_CyclesOf.mono_l k
  ·
   intro y0 y1 y2
   unfold spec_CyclesOf.l0
   repeat' first
   | (with_reducible exact ih0 _ _ _)
   | (with_reducible exact spec_l36Ok.mono _ _)
   | (with_reducible exact LeO.refl _)
   | (with_reducible exact LeO.none _)
   | (with_reducible refine LeO.ite ?_ ?_)
   | (with_reducible refine LeO.bind ?_ (fun _ => ?_))
   | exact ih0 _ _ _
   | exact spec_l36Ok.mono _ _
   | exact LeO.none _
   | refine LeO.ite ?_ ?_
   | refine LeO.bind ?_ (fun _ => ?_)
theorem spec_CyclesOf.mono : ∀ a0 k, LeO (spec_CyclesOf.f k a0) (spec_CyclesOf.f (k + 1) a0) := by
 intro a0 k
 have ih0 := spec_CyclesOf.mono_l k
 unfold spec_CyclesOf.f
 repeat' first
   | (with_reducible exact ih0 _ _ _)
   | (with_reducible exact spec_l36Ok.mono _ _)
   | (with_reducible exact LeO.refl _)
   | (with_reducible exact LeO.none _)
   | (with_reducible refine LeO.ite ?_ ?_)
   | (with_reducible refine LeO.bind ?_ (fun _ => ?_))
   | exact ih0 _ _ _
   | exact spec_l36Ok.mono _ _
   | exact LeO.none _
   | refine LeO.ite ?_ ?_
   | refine LeO.bind ?_ (fun _ => ?_)
/-! ### spec_IdleCycles: function 52 -/
def spec_IdleCycles.l0 : Nat → List (S49) → List Int → Int → Option (Int)
 | 0, _, _, _ => none
 | k + 1, x0, x3, x4 => if x4 < (x0.length : Int) then (if 0 ≤ x4 then ((spec_l04Put.f k x3 ((rd_T49 x0 x4).f0)).bind fun t525 => (spec_IdleCycles.l0 k x0 t525 (wrap64 (x4 + 1)))) else (none)) else ((spec_CyclesOf.f k x0).bind fun t528 => (some (wrap64 (t528 - (x3.length : Int)))))
def spec_IdleCycles.f (k : Nat) (l0 : List (S49)) : Option (Int) := (spec_l36Ok.f k l0).bind fun t523 => (if t523 = true then (spec_IdleCycles.l0 k l0 (([] : List Int)) 0) else (some 0))
theorem spec_IdleCycles.mono_l : ∀ k, (∀ y0 y1 y2, LeO (spec_IdleCycles.l0 k y0 y1 y2) (spec_IdleCycles.l0 (k + 1) y0 y1 y2))
 | 0 => fun _ _ _ r h => by simp [spec_IdleCycles.l0] at h
 | k + 1 => by
  have ih0 := spec_IdleCycles.mono_l k
  ·
   intro y0 y1 y2
   unfold spec_IdleCycles.l0
   repeat' first
   | (with_reducible exact ih0 _ _ _)
   | (with_reducible exact spec_CyclesOf.mono _ _)
   | (with_reducible exact spec_l04Put.mono _ _ _)
   | (with_reducible exact spec_l36Ok.mono _ _)
   | (with_reducible exact LeO.refl _)
   | (with_reducible exact LeO.none _)
   | (with_reducible refine LeO.ite ?_ ?_)
   | (with_reducible refine LeO.bind ?_ (fun _ => ?_))
   | exact ih0 _ _ _
   | exact spec_CyclesOf.mono _ _
   | exact spec_l04Put.mono _ _ _
   | exact spec_l36Ok.mono _ _
   | exact LeO.none _
   | refine LeO.ite ?_ ?_
   | refine LeO.bind ?_ (fun _ => ?_)
theorem spec_IdleCycles.mono : ∀ a0 k, LeO (spec_IdleCycles.f k a0) (spec_IdleCycles.f (k + 1) a0) := by
 intro a0 k
 have ih0 := spec_IdleCycles.mono_l k
 unfold spec_IdleCycles.f
 repeat' first
   | (with_reducible exact ih0 _ _ _)
   | (with_reducible exact spec_CyclesOf.mono _ _)
   | (with_reducible exact spec_l04Put.mono _ _ _)
   | (with_reducible exact spec_l36Ok.mono _ _)
   | (with_reducible exact LeO.refl _)
   | (with_reducible exact LeO.none _)
   | (with_reducible refine LeO.ite ?_ ?_)
   | (with_reducible refine LeO.bind ?_ (fun _ => ?_))
   | exact ih0 _ _ _
   | exact spec_CyclesOf.mono _ _
   | exact spec_l04Put.mono _ _ _
   | exact spec_l36Ok.mono _ _
   | exact LeO.none _
   | refine LeO.ite ?_ ?_
   | refine LeO.bind ?_ (fun _ => ?_)
/-! ### spec_ResidentFor: function 41 -/
mutual
def spec_ResidentFor.l0 : Nat → List (S45) → Int → Option (Int)
 | 0, _, _ => none
 | k + 1, x0, x3 => if x3 ≤ 8 then ((spec_ListOk.f k x0).bind fun t529 => (spec_ResidentFor.j1 k x0 x3 t529)) else (spec_ResidentFor.j1 k x0 x3 false)
def spec_ResidentFor.j1 : Nat → List (S45) → Int → Bool → Option (Int)
 | 0, _, _, _ => none
 | k + 1, x0, x3, x9 => if x9 = true then ((spec_l36Issue.f k x0 x3 1).bind fun t530 => ((spec_IdleCycles.f k t530).bind fun t533 => (if t533 = 0 then (some x3) else (spec_ResidentFor.l0 k x0 (wrap64 (x3 + 1)))))) else (some (-1))
end
def spec_ResidentFor.f (k : Nat) (l0 : List (S45)) : Option (Int) := spec_ResidentFor.l0 k l0 1
end Go.Proofs.Ytopckcppmpmcnaa.Q
