/- The total time and the stalls: what both sides come to. -/
import Derived.Test.YtopckcppmpmcnaaKFnExactIssueAll33
namespace Go.Proofs.Ytopckcppmpmcnaa.Q
open Go.RowKit Go.Proofs.YtopckcppmpmcnaaW.PrintWords Go.Proofs.YtopckcppmpmcnaaW.PrintLast Go.Proofs.YtopckcppmpmcnaaW.PrintMore
set_option linter.unusedVariables false
set_option linter.unusedSimpArgs false

/-- The state behind the first i instructions; the cycle of instruction i. -/
def stI (l : List S45) : Nat → List Int × Int
  | 0 => (b0, 0)
  | i + 1 => (itBoard (stI l i).1 (rd_T45 l (i : Int)) (itStep (stI l i).1 (stI l i).2 (rd_T45 l (i : Int))), itStep (stI l i).1 (stI l i).2 (rd_T45 l (i : Int)) + 1)
def tmI (l : List S45) (i : Nat) : Int := itStep (stI l i).1 (stI l i).2 (rd_T45 l (i : Int))
theorem its_at (l : List S45) : ∀ (d i j : Nat), l.length - i = d → i ≤ l.length → i + j < l.length → rd (its (l.drop i) (stI l i).1 (stI l i).2) (j : Int) = tmI l (i + j) := by
  intro d
  induction d with
  | zero => intro i j h1 h2 h3; omega
  | succ d ih =>
    intro i j h1 h2 h3
    rw [drop_at l i (by omega)]
    simp only [its]
    cases j with
    | zero => simp [rd, tmI]
    | succ j =>
      have := ih (i + 1) j (by omega) (by omega) (by omega)
      have e : i + 1 + j = i + (j + 1) := by omega
      rw [e] at this
      rw [← this]
      simp [rd, stI]
theorem itsZ_at (l : List S45) (h : lokB l = true) (j : Nat) (hj : j < l.length) : rd (itsZ l) (j : Int) = tmI l j := by
  unfold itsZ
  rw [if_pos h]
  have := its_at l l.length 0 j (by omega) (by omega) (by omega)
  simpa [stI] using this
theorem itsZ_length (l : List S45) (h : lokB l = true) : (itsZ l).length = l.length := by
  unfold itsZ; rw [if_pos h, its_len]
theorem stI_ok (l : List S45) : ∀ i : Nat, BoardOk (stI l i).1 (7 * i) ∧ 0 ≤ (stI l i).2 ∧ (stI l i).2 ≤ 7 * i
  | 0 => ⟨⟨rfl, fun y hy => by simp [stI, b0] at hy; omega⟩, by simp [stI], by simp [stI]⟩
  | i + 1 => by
    obtain ⟨h1, h2, h3⟩ := stI_ok l i
    have hs := itStep_bd h1 h2 h3 (rd_T45 l (i : Int))
    have hb := itBoard_ok h1 (by omega) hs.2 (rd_T45 l (i : Int))
    refine ⟨⟨hb.len, fun y hy => ?_⟩, ?_, ?_⟩
    · have := hb.bd y hy; omega
    · simp only [stI]; omega
    · simp only [stI]; omega
theorem tmI_bd (l : List S45) (i : Nat) : 0 ≤ tmI l i ∧ tmI l i ≤ 7 * i := by
  obtain ⟨h1, h2, h3⟩ := stI_ok l i
  have hs := itStep_bd h1 h2 h3 (rd_T45 l (i : Int))
  unfold tmI
  omega
/-- The greatest of the first i ends. -/
def totF (l : List S45) : Nat → Int
  | 0 => 0
  | i + 1 => mx (totF l i) (tmI l i + latOf (rd_T45 l (i : Int)))
def totZ (l : List S45) : Int := if lokB l = true then totF l l.length else -1
theorem impl_TotalTime_ev (l : List S45) (hl : l.length ≤ 1099511627776) : Ev (fun k => impl_TotalTime.f k l) (totZ l) := by
  have e0 := impl_ListOk_ev l hl
  have e1 := impl_IssueTimes_ev l hl
  unfold totZ
  by_cases hok : lokB l = true
  · have hn := lokB_len hok
    have hlen := itsZ_length l hok
    have key : ∀ d (i : Nat), l.length - i = d → i ≤ l.length → Ev (fun k => impl_TotalTime.l0 k l (totF l i) (itsZ l) ((itsZ l).length : Int) (i : Int)) (totF l l.length) := by
      intro d
      induction d with
      | zero =>
        intro i hd hi
        obtain rfl : i = l.length := by omega
        refine Ev.step (f := fun _ => some (totF l l.length)) (fun k => ?_) (Ev.now _)
        simp only [impl_TotalTime.l0]
        rw [if_neg (by omega)]
      | succ d ih =>
        intro i hd hi
        have hlt : i < l.length := by omega
        have hih := ih (i + 1) (by omega) (by omega)
        have hat := itsZ_at l hok i hlt
        have hbd := tmI_bd l i
        have hlat := lat_bd (rd_T45 l (i : Int))
        have hla := impl_lat_f (rd_T45 l (i : Int))
        have c1 : (i : Int) < ((itsZ l).length : Int) := by omega
        have c2 : (0 : Int) ≤ (i : Int) := by omega
        have c3 : (i : Int) < (l.length : Int) := by omega
        have a3 : i < 1000000 := by omega
        have a4 : 0 ≤ tmI l i + latOf (rd_T45 l (i : Int)) := by omega
        have a5 : tmI l i + latOf (rd_T45 l (i : Int)) ≤ 1000000 := by omega
        have e2 := wrap_nat' i a3
        have e3 := wrap_small a4 a5
        refine Ev.step (fun k => ?_) hih
        simp only [impl_TotalTime.l0]
        rw [if_pos c1, if_pos c2, if_pos c1, if_pos c3, hla, Option.bind_some, hat, e2, e3]
        rfl
    rw [if_pos hok]
    rw [hok] at e0
    refine Ev.bind (f := fun k t392 => if t392 = true then ((impl_IssueTimes.f k l).bind fun t393 => (impl_TotalTime.l0 k l 0 t393 (t393.length : Int) 0)) else (some (-1))) e0 ?_
    simp only [if_true]
    exact Ev.bind (f := fun k t393 => impl_TotalTime.l0 k l 0 t393 (t393.length : Int) 0) e1 (key l.length 0 (by omega) (by omega))
  · have hf : lokB l = false := by simpa using hok
    rw [if_neg hok]
    rw [hf] at e0
    exact Ev.bind (f := fun k t392 => if t392 = true then ((impl_IssueTimes.f k l).bind fun t393 => (impl_TotalTime.l0 k l 0 t393 (t393.length : Int) 0)) else (some (-1))) e0 (by simpa using Ev.now _)
theorem spec_TotalTime_ev (l : List S45) (hl : l.length ≤ 1099511627776) : Ev (fun k => spec_TotalTime.f k l) (totZ l) := by
  have e0 := spec_ListOk_ev l hl
  have e1 := spec_IssueTimes_ev l hl
  unfold totZ
  by_cases hok : lokB l = true
  · have hn := lokB_len hok
    have hlen := itsZ_length l hok
    have key : ∀ d (i : Nat), l.length - i = d → i ≤ l.length → Ev (fun k => spec_TotalTime.l0 k l (itsZ l) (totF l i) (i : Int)) (totF l l.length) := by
      intro d
      induction d with
      | zero =>
        intro i hd hi
        obtain rfl : i = l.length := by omega
        refine Ev.step (f := fun _ => some (totF l l.length)) (fun k => ?_) (Ev.now _)
        simp only [spec_TotalTime.l0]
        rw [if_neg (by omega)]
      | succ d ih =>
        intro i hd hi
        have hlt : i < l.length := by omega
        have hih := ih (i + 1) (by omega) (by omega)
        have hat := itsZ_at l hok i hlt
        have hbd := tmI_bd l i
        have hlat := lat_bd (rd_T45 l (i : Int))
        have hla := spec_lat_f (rd_T45 l (i : Int))
        have c1 : (i : Int) < ((itsZ l).length : Int) := by omega
        have c2 : (0 : Int) ≤ (i : Int) := by omega
        have c3 : (i : Int) < (l.length : Int) := by omega
        have a3 : i < 1000000 := by omega
        have a4 : 0 ≤ tmI l i + latOf (rd_T45 l (i : Int)) := by omega
        have a5 : tmI l i + latOf (rd_T45 l (i : Int)) ≤ 1000000 := by omega
        have e2 := wrap_nat' i a3
        have e3 := wrap_small a4 a5
        refine Ev.step (fun k => ?_) hih
        simp only [spec_TotalTime.l0]
        rw [if_pos c1, if_pos c2, if_pos c3, hla, Option.bind_some, hat, e2, e3]
        rfl
    rw [if_pos hok]
    rw [hok] at e0
    refine Ev.bind (f := fun k t385 => if t385 = true then ((spec_IssueTimes.f k l).bind fun t386 => (spec_TotalTime.l0 k l t386 0 0)) else (some (-1))) e0 ?_
    simp only [if_true]
    exact Ev.bind (f := fun k t386 => spec_TotalTime.l0 k l t386 0 0) e1 (key l.length 0 (by omega) (by omega))
  · have hf : lokB l = false := by simpa using hok
    rw [if_neg hok]
    rw [hf] at e0
    exact Ev.bind (f := fun k t385 => if t385 = true then ((spec_IssueTimes.f k l).bind fun t386 => (spec_TotalTime.l0 k l t386 0 0)) else (some (-1))) e0 (by simpa using Ev.now _)
def stallZ (l : List S45) : Int := if lokB l = true then (if l.length = 0 then 0 else tmI l (l.length - 1) + 1 - (l.length : Int)) else -1
theorem stall_core (l : List S45) (hok : lokB l = true) (h0 : ¬ l.length = 0) :
    wrap64 ((itsZ l).length - 1 : Int) = ((l.length - 1 : Nat) : Int) ∧ wrap64 (wrap64 (rd (itsZ l) ((l.length - 1 : Nat) : Int) + 1) - (l.length : Int)) = tmI l (l.length - 1) + 1 - (l.length : Int) := by
  have hn := lokB_len hok
  have hlen := itsZ_length l hok
  have hat := itsZ_at l hok (l.length - 1) (by omega)
  have hbd := tmI_bd l (l.length - 1)
  constructor
  · rw [hlen]; unfold wrap64; omega
  · have e3 := wrap_small (x := tmI l (l.length - 1) + 1) (by omega) (by omega)
    rw [hat, e3]
    clear e3
    unfold wrap64; omega
theorem impl_StallCycles_ev (l : List S45) (hl : l.length ≤ 1099511627776) : Ev (fun k => impl_StallCycles.f k l) (stallZ l) := by
  have e0 := impl_ListOk_ev l hl
  have e1 := impl_IssueTimes_ev l hl
  refine Ev.bind (f := fun k t367 => ((impl_ListOk.f k l).bind fun t370 => (if t370 = true then (if (l.length : Int) = 0 then (some 0) else (if 0 ≤ (wrap64 ((t367.length : Int) - 1)) then (if (wrap64 ((t367.length : Int) - 1)) < (t367.length : Int) then (some (wrap64 ((wrap64 ((rd t367 (wrap64 ((t367.length : Int) - 1))) + 1)) - (l.length : Int)))) else (none)) else (none))) else (some (-1))))) e1 ?_
  refine Ev.bind (f := fun k t370 => (if t370 = true then (if (l.length : Int) = 0 then (some 0) else (if 0 ≤ (wrap64 (((itsZ l).length : Int) - 1)) then (if (wrap64 (((itsZ l).length : Int) - 1)) < ((itsZ l).length : Int) then (some (wrap64 ((wrap64 ((rd (itsZ l) (wrap64 (((itsZ l).length : Int) - 1))) + 1)) - (l.length : Int)))) else (none)) else (none))) else (some (-1)))) e0 ?_
  unfold stallZ
  by_cases hok : lokB l = true
  · simp only [hok, if_true]
    by_cases h0 : l.length = 0
    · rw [if_pos h0]
      simp only [if_pos (show (l.length : Int) = 0 by omega)]
      exact Ev.now _
    · have hlen := itsZ_length l hok
      obtain ⟨a1, a2⟩ := stall_core l hok h0
      rw [if_neg h0]
      have c0 : ¬ (l.length : Int) = 0 := by omega
      have c1 : (0 : Int) ≤ ((l.length - 1 : Nat) : Int) := by clear a1 a2; omega
      have c2 : ((l.length - 1 : Nat) : Int) < ((itsZ l).length : Int) := by clear a1 a2; omega
      simp only [if_neg c0, a1, if_pos c1, if_pos c2, a2]
      exact Ev.now _
  · rw [if_neg hok]
    simp only [if_neg hok]
    exact Ev.now _
theorem spec_StallCycles_ev (l : List S45) (hl : l.length ≤ 1099511627776) : Ev (fun k => spec_StallCycles.f k l) (stallZ l) := by
  have e0 := spec_ListOk_ev l hl
  have e1 := spec_IssueTimes_ev l hl
  refine Ev.bind (f := fun k t362 => (if t362 = true then ((spec_IssueTimes.f k l).bind fun t363 => (if (t363.length : Int) = 0 then (some 0) else (if 0 ≤ (wrap64 ((t363.length : Int) - 1)) then (if (wrap64 ((t363.length : Int) - 1)) < (t363.length : Int) then (some (wrap64 ((wrap64 ((rd t363 (wrap64 ((t363.length : Int) - 1))) + 1)) - (t363.length : Int)))) else (none)) else (none)))) else (some (-1)))) e0 ?_
  unfold stallZ
  by_cases hok : lokB l = true
  · simp only [hok, if_true]
    refine Ev.bind (f := fun k t363 => (if (t363.length : Int) = 0 then (some 0) else (if 0 ≤ (wrap64 ((t363.length : Int) - 1)) then (if (wrap64 ((t363.length : Int) - 1)) < (t363.length : Int) then (some (wrap64 ((wrap64 ((rd t363 (wrap64 ((t363.length : Int) - 1))) + 1)) - (t363.length : Int)))) else (none)) else (none)))) e1 ?_
    have hlen := itsZ_length l hok
    by_cases h0 : l.length = 0
    · rw [if_pos h0]
      simp only [if_pos (show ((itsZ l).length : Int) = 0 by omega)]
      exact Ev.now _
    · obtain ⟨a1, a2⟩ := stall_core l hok h0
      rw [if_neg h0]
      have c0 : ¬ ((itsZ l).length : Int) = 0 := by clear a1 a2; omega
      have c1 : (0 : Int) ≤ ((l.length - 1 : Nat) : Int) := by clear a1 a2; omega
      have c2 : ((l.length - 1 : Nat) : Int) < ((itsZ l).length : Int) := by clear a1 a2; omega
      have c3 : ((itsZ l).length : Int) = (l.length : Int) := by clear a1 a2; omega
      simp only [if_neg c0, a1, if_pos c1, if_pos c2]
      rw [c3, a2]
      exact Ev.now _
  · rw [if_neg hok]
    simp only [if_neg hok]
    exact Ev.now _

end Go.Proofs.Ytopckcppmpmcnaa.Q
