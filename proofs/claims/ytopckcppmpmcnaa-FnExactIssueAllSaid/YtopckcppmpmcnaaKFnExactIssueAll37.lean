/- The pure statement of FnExactIssueAll. -/
import Derived.Test.YtopckcppmpmcnaaKFnExactIssueAll36
namespace Go.Proofs.Ytopckcppmpmcnaa.Q
open Go.RowKit Go.Proofs.YtopckcppmpmcnaaW.PrintWords Go.Proofs.YtopckcppmpmcnaaW.PrintLast Go.Proofs.YtopckcppmpmcnaaW.PrintMore
set_option linter.unusedVariables false
set_option linter.unusedSimpArgs false

theorem run_len {l : List S45} {n : Nat} {pol : Int} {B : List (List Int)} {nx : List Int} {out : List S49} {fr t : Int} {F : List S49} (hr : Run l n pol B nx out fr t F) : F.length = n * l.length := by
  induction hr with
  | done B nx out fr t ho => exact ho
  | idle B nx out fr t F ho ht hpk _ ih => exact ih
  | step B nx out fr t F w ho ht hpk _ ih => exact ih
theorem allI (l : List S45) (hl : l.length ≤ 1048576) (a1 a2 : Int) : ∃ F : List S49, F.length ≤ 1048576 ∧ Ev (fun k => impl_IssueAll.f k l a1 a2) F ∧ Ev (fun k => spec_IssueAll.f k l a1 a2) F := by
  have e0 := impl_ListOk_ev l (by omega)
  have e1 := spec_ListOk_ev l (by omega)
  by_cases hok : lokB l = true
  · rw [hok] at e0 e1
    cases h1 : inR 1 8 a1 with
    | false =>
      refine ⟨[], by simp, ?_, ?_⟩
      · refine Ev.bind (f := fun k t => if t = true ∧ inR 1 8 a1 = true ∧ inR 0 1 a2 = true then (if l.length ≤ 32 then impl_IssueAll.l0 k l (List.replicate (4 * a1.toNat) 0) (List.replicate a1.toNat 0) a1 a2 [] 0 0 else none) else some []) e0 ?_
        exact Ev.congr (fun k => by rw [if_neg (fun h => by rw [h1] at h; exact absurd h.2.1 (by simp))]) (Ev.now _)
      · refine Ev.bind e1 ?_
        simp only [if_true, l01In_f, h1, Option.bind_some, Bool.false_eq_true, if_false]
        exact Ev.now _
    | true =>
      cases h2 : inR 0 1 a2 with
      | false =>
        refine ⟨[], by simp, ?_, ?_⟩
        · refine Ev.bind (f := fun k t => if t = true ∧ inR 1 8 a1 = true ∧ inR 0 1 a2 = true then (if l.length ≤ 32 then impl_IssueAll.l0 k l (List.replicate (4 * a1.toNat) 0) (List.replicate a1.toNat 0) a1 a2 [] 0 0 else none) else some []) e0 ?_
          exact Ev.congr (fun k => by rw [if_neg (fun h => by rw [h2] at h; exact absurd h.2.2 (by simp))]) (Ev.now _)
        · refine Ev.bind e1 ?_
          simp only [if_true, l01In_f, h1, h2, Option.bind_some, Bool.false_eq_true, if_false]
          exact Ev.now _
      | true =>
        obtain ⟨b1, b2⟩ := (inR_iff _ _ _).1 h1
        obtain ⟨n, rfl⟩ := Int.eq_ofNat_of_zero_le (show 0 ≤ a1 by omega)
        obtain ⟨F, hF, g1, g2⟩ := sched_ex l hok n (by omega) (by omega) a2 h2
        have hl32 := lokB_len hok
        have hn8 : n * l.length ≤ 8 * 32 := Nat.mul_le_mul (by omega) hl32
        refine ⟨F, by rw [run_len hF]; omega, g1, ?_⟩
        refine Ev.bind e1 ?_
        simp only [if_true, l01In_f, h1, h2, Option.bind_some]
        exact Ev.bind (f := fun k t461 => some t461) g2 (Ev.now _)
  · have hf : lokB l = false := by simpa using hok
    rw [hf] at e0 e1
    refine ⟨[], by simp, ?_, ?_⟩
    · refine Ev.bind (f := fun k t => if t = true ∧ inR 1 8 a1 = true ∧ inR 0 1 a2 = true then (if l.length ≤ 32 then impl_IssueAll.l0 k l (List.replicate (4 * a1.toNat) 0) (List.replicate a1.toNat 0) a1 a2 [] 0 0 else none) else some []) e0 ?_
      exact Ev.congr (fun k => by rw [if_neg (fun h => absurd h.1 (by simp))]) (Ev.now _)
    · refine Ev.bind e1 ?_
      simp only [Bool.false_eq_true, if_false]
      exact Ev.now _
theorem FnExactIssueAll : ∀ (l0 : List S63) (a1 : Int) (a2 : Int), l0.length ≤ maxLen → (∀ x ∈ l0, (Lit.int .i64 x.f0).wf = true ∧ (Lit.int .i64 x.f1).wf = true ∧ (Lit.int .i64 x.f2).wf = true ∧ (Lit.int .i64 x.f3).wf = true) → (Lit.int .i64 a1).wf = true → (Lit.int .i64 a2).wf = true → ∃ k, laws_FnExactIssueAll.f k l0 a1 a2 = some true := by
  intro l a1 a2 hm _ _ _
  unfold maxLen at hm
  by_cases hb : l.length ≤ 1048576
  · have hn : (l.map toInsP).length ≤ 1048576 := by simpa using hb
    obtain ⟨F, hFl, ⟨K3, e3⟩, ⟨K2, e2⟩⟩ := allI (l.map toInsP) hn a1 a2
    obtain ⟨K1, e1⟩ := toInsS_ev l hb
    obtain ⟨K4, e4⟩ := eqSlotS_ev F hFl
    obtain ⟨K5, e5⟩ := eqInsS_ev (l.map toInsP) hn
    obtain ⟨K6, z, q, hq, e6⟩ := markInsS_ev (l.map toInsP) 1 (by omega) (by omega) hn
    obtain ⟨z2, hz0, hz1, K7, e7⟩ := markSlotS_z F 1 (by omega) (by omega) hFl
    obtain ⟨K8, e8⟩ := heldSlotS_z z2 1 (by omega) (by omega) (by omega) (fun i hi => hz1 i (by omega))
    rw [hz0] at e8
    dsimp only at e1 e2 e3 e4 e5 e6 e7 e8
    refine ⟨K1 + K2 + K3 + K4 + K5 + K6 + K7 + K8 + 1, ?_⟩
    generalize hK : K1 + K2 + K3 + K4 + K5 + K6 + K7 + K8 = K
    have f1 := e1 (K + 1) (by omega)
    have f2 := e2 (K + 1) (by omega)
    have f3 := e3 (K + 1) (by omega)
    have f4 := e4 (K + 1) (by omega)
    have f5 := e5 (K + 1) (by omega)
    have f6 := e6 (K + 1) (by omega)
    have g1 := e1 K (by omega)
    have g3 := e3 K (by omega)
    have g4 := e4 K (by omega)
    have g7 := e7 K (by omega)
    have g8 := e8 K (by omega)
    have hz : ¬ q < 0 := by omega
    have hn : ¬ (1 + 3 * (F.length : Int) < 0) := by omega
    have c1 : ¬ 1048576 - (l.length : Int) < 0 := by omega
    unfold laws_FnExactIssueAll.f laws_szInsS.f
    have hw : wrap64 (1048576 - (l.length : Int)) = 1048576 - (l.length : Int) := by unfold wrap64; omega
    rw [hw, if_neg c1, Option.bind_some, if_neg c1]
    simp only [f1, f2, f3, f4, f5, f6, Option.bind_some, if_true, laws_FnExactIssueAll.j0, g1, g3, g4, g7, g8, Bool.not_true, Bool.false_eq_true, if_false, hz, hn]
  · refine ⟨0, ?_⟩
    unfold laws_FnExactIssueAll.f laws_szInsS.f
    have hw : wrap64 (1048576 - (l.length : Int)) < 0 := by unfold wrap64; omega
    rw [if_pos hw]; simp

end Go.Proofs.Ytopckcppmpmcnaa.Q
