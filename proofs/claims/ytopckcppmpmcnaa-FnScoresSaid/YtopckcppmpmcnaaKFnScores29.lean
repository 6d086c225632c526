/- The pure statement of FnScores. -/
import Derived.Test.YtopckcppmpmcnaaKFnScores28
namespace Go.Proofs.Ytopckcppmpmcnaa.Q
open Go.RowKit Go.Proofs.YtopckcppmpmcnaaW.PrintWords Go.Proofs.YtopckcppmpmcnaaW.PrintLast Go.Proofs.YtopckcppmpmcnaaW.PrintMore
set_option linter.unusedVariables false
set_option linter.unusedSimpArgs false

theorem latS_bd (l : List S45) : ∀ i : Nat, 0 ≤ latS l i ∧ latS l i ≤ 6 * i
  | 0 => by simp [latS]
  | i + 1 => by
    have := latS_bd l i
    have := lat_bd (rd_T45 l (i : Int))
    simp only [latS]; omega
theorem scores_l1 (L : List S45) (hok : lokB L = true) (sum : Int) (hs : sum = latS L L.length) :
    ∀ d (i : Nat), L.length - i = d → i ≤ L.length → Ev (fun k => laws_FnScores.l1 k L (itsZ L) (totZ L) sum (i : Int)) true := by
  have hn := lokB_len hok
  have hlen := itsZ_length L hok
  intro d
  induction d with
  | zero =>
    intro i hd hi
    obtain rfl : i = L.length := by omega
    have hcr := (crit_inv L hok L.length (Nat.le_refl _)).2
    have hto : totZ L = totF L L.length := by unfold totZ; rw [if_pos hok]
    have hcz : critZ L = cpm L L.length := by unfold critZ; rw [if_pos hok]
    have htl := totF_len L L.length
    have hts := totF_sum L L.length
    have c1 : ¬ ((L.length : Nat) : Int) < ((itsZ L).length : Int) := by omega
    have c2 : totZ L ≥ critZ L := by omega
    have c3 : totZ L ≥ (L.length : Int) := by omega
    have c4 : totZ L ≤ sum := by omega
    have e0 := impl_ListOk_ev L (by omega)
    have e1 := impl_CriticalPath_ev L (by omega)
    have e2 := impl_StallCycles_ev L (by omega)
    rw [hok] at e0
    have h0 : stallZ L ≥ 0 := by
      unfold stallZ
      rw [if_pos hok]
      split
      · omega
      · have := tmI_idx L (L.length - 1); omega
    refine Ev.step (f := fun k => (impl_ListOk.f k L).bind fun t615 => (if t615 = true then ((impl_CriticalPath.f k L).bind fun t616 => (if totZ L ≥ t616 then (if totZ L ≥ (L.length : Int) then (if totZ L ≤ sum then ((impl_StallCycles.f k L).bind fun t617 => (some (decide (t617 ≥ 0)))) else (some false)) else (some false)) else (some false))) else (some false))) (fun k => ?_) ?_
    · simp only [laws_FnScores.l1]
      rw [if_neg c1]
    · refine Ev.bind e0 ?_
      simp only [if_true]
      refine Ev.bind e1 ?_
      simp only [if_pos c2, if_pos c3, if_pos c4]
      refine Ev.bind (f := fun k t617 => some (decide (t617 ≥ 0))) e2 ?_
      rw [decide_eq_true h0]
      exact Ev.now _
  | succ d ih =>
    intro i hd hi
    have hlt : i < L.length := by omega
    have hih := ih (i + 1) (by omega) (by omega)
    have hat := itsZ_at L hok i hlt
    have hidx := tmI_idx L i
    have c1 : (i : Int) < ((itsZ L).length : Int) := by omega
    have c2 : (0 : Int) ≤ (i : Int) := by omega
    have c3 : ¬ tmI L i < (i : Int) := by omega
    have a3 : i < 1000000 := by omega
    by_cases h0 : i = 0
    · have c4 : ¬ (i : Int) > 0 := by omega
      have e2 := wrap_nat' i a3
      refine Ev.step (fun k => ?_) hih
      simp only [laws_FnScores.l1]
      rw [if_pos c1, if_pos c2, hat, if_neg c3, if_neg c4, e2]
    · have hat2 := itsZ_at L hok (i - 1) (by omega)
      have hr := tmI_rise L (i - 1)
      have e : i - 1 + 1 = i := by omega
      rw [e] at hr
      have c4 : (i : Int) > 0 := by omega
      have c5 : (0 : Int) ≤ ((i - 1 : Nat) : Int) := by omega
      have c6 : ((i - 1 : Nat) : Int) < ((itsZ L).length : Int) := by omega
      have c7 : ¬ tmI L i ≤ tmI L (i - 1) := by omega
      have e3 : wrap64 ((i : Int) - 1) = ((i - 1 : Nat) : Int) := by unfold wrap64; omega
      have e2 := wrap_nat' i a3
      refine Ev.step (fun k => ?_) hih
      simp only [laws_FnScores.l1]
      rw [if_pos c1, if_pos c2, hat, if_neg c3, if_pos c4, e3, if_pos c5, if_pos c6, hat2, if_neg c7, e2]
theorem scores_l0 (L : List S45) (hok : lokB L = true) :
    ∀ d (i : Nat), L.length - i = d → i ≤ L.length → Ev (fun k => laws_FnScores.l0 k L (itsZ L) (totZ L) (latS L i) (i : Int)) true := by
  have hn := lokB_len hok
  have hlen := itsZ_length L hok
  intro d
  induction d with
  | zero =>
    intro i hd hi
    obtain rfl : i = L.length := by omega
    have h1 := scores_l1 L hok (latS L L.length) rfl L.length 0 (by omega) (by omega)
    have c1 : ¬ ((L.length : Nat) : Int) < (L.length : Int) := by omega
    have c2 : ((itsZ L).length : Int) = (L.length : Int) := by omega
    refine Ev.step (fun k => ?_) h1
    simp only [laws_FnScores.l0]
    rw [if_neg c1, if_pos c2]
    rfl
  | succ d ih =>
    intro i hd hi
    have hlt : i < L.length := by omega
    have hih := ih (i + 1) (by omega) (by omega)
    have hb := latS_bd L i
    have hlat := lat_bd (rd_T45 L (i : Int))
    have hla := impl_lat_f (rd_T45 L (i : Int))
    have c1 : (i : Int) < (L.length : Int) := by omega
    have c2 : (0 : Int) ≤ (i : Int) := by omega
    have a3 : i < 1000000 := by omega
    have a4 : 0 ≤ latS L i + latOf (rd_T45 L (i : Int)) := by omega
    have a5 : latS L i + latOf (rd_T45 L (i : Int)) ≤ 1000000 := by omega
    have e2 := wrap_nat' i a3
    have e3 := wrap_small a4 a5
    refine Ev.step (fun k => ?_) hih
    simp only [laws_FnScores.l0]
    rw [if_pos c1, if_pos c2, hla, Option.bind_some, e2, e3]
    rfl
theorem FnScores : ∀ (l0 : List Int), l0.length ≤ maxLen → l0.length * 1 ≤ 140737488351232 → (∀ x ∈ l0, (Lit.int .u8 x).wf = true) → ∃ k, laws_FnScores.f k l0 = some true := by
  intro l _ hl _
  have hll : l.length ≤ 140737488351232 := by omega
  obtain ⟨L, hL, hok, eL⟩ := DrawList_ev l hll
  have e1 := impl_IssueTimes_ev L (by omega)
  have e2 := impl_TotalTime_ev L (by omega)
  have e3 := scores_l0 L hok L.length 0 (by omega) (by omega)
  by_cases hb : decide ((l.length : Int) > 1048576) = true
  · refine ⟨0, ?_⟩
    unfold laws_FnScores.f laws_big.f
    rw [Option.bind_some, if_pos hb]
  · have hall : Ev (fun k => laws_FnScores.f k l) true := by
      refine Ev.congr (f := fun k => (spec_DrawList.f k l).bind fun t603 => ((impl_IssueTimes.f k t603).bind fun t606 => ((impl_TotalTime.f k t603).bind fun t609 => (laws_FnScores.l0 k t603 t606 t609 0 0)))) (fun k => ?_) ?_
      · unfold laws_FnScores.f laws_big.f
        rw [Option.bind_some, if_neg hb]
      · exact Ev.bind eL (Ev.bind e1 (Ev.bind e2 e3))
    exact hall.rounds

end Go.Proofs.Ytopckcppmpmcnaa.Q
