/- The pure statement of FnIssues. -/
import Derived.Test.YtopckcppmpmcnaaKFnIssues41
namespace Go.Proofs.Ytopckcppmpmcnaa.Q
open Go.RowKit Go.Maps Go.Proofs.YtopckcppmpmcnaaW.PrintWords Go.Proofs.YtopckcppmpmcnaaW.PrintLast Go.Proofs.YtopckcppmpmcnaaW.PrintMore
set_option linter.unusedVariables false
set_option linter.unusedSimpArgs false

theorem same_ev (s : List Int) (hs : s.length ≤ 1000) : Ev (fun k => laws_sameInts.f k s s) true := by
  have key : ∀ d (i : Nat), s.length - i = d → i ≤ s.length → Ev (fun k => laws_sameInts.l0 k s s (i : Int)) true := by
    intro d
    induction d with
    | zero =>
      intro i hd hi
      have c1 : ¬ (i : Int) < (s.length : Int) := by omega
      refine Ev.step (f := fun _ => some true) (fun k => ?_) (Ev.now _)
      simp only [laws_sameInts.l0]
      rw [if_neg c1]
    | succ d ih =>
      intro i hd hi
      have hih := ih (i + 1) (by omega) (by omega)
      have c1 : (i : Int) < (s.length : Int) := by omega
      have c2 : (0 : Int) ≤ (i : Int) := by omega
      have a : i < 1000000 := by omega
      have e := wrap_nat' i a
      refine Ev.step (fun k => ?_) hih
      simp only [laws_sameInts.l0]
      rw [if_pos c1, if_pos c2, if_pos c1, if_pos trivial, e]
  refine Ev.congr (fun k => ?_) (key s.length 0 (by omega) (by omega))
  unfold laws_sameInts.f
  rw [if_pos rfl]
  rfl
theorem size_rise (F : List S49) (hr : F.Pairwise (fun a b => a.f0 < b.f0)) : ∀ i : Nat, i ≤ F.length → Maps.size (cycSet F i) = i
  | 0, _ => by rw [cycSet_zero]; rfl
  | i + 1, h => by
    have hlt : i < F.length := by omega
    have ih := size_rise F hr i (by omega)
    have e : rd_T49 F (i : Int) = F[i] := rdSlotW F i hlt
    rw [cycSet_succ F i hlt, e, size_put (cyc_tidy F i), ih, if_neg]
    rw [cyc_has_at]
    rintro ⟨s, hs, hx⟩
    obtain ⟨j, hj, rfl⟩ := List.mem_iff_getElem.1 hs
    rw [List.length_take] at hj
    rw [List.getElem_take] at hx
    have := List.pairwise_iff_getElem.1 hr j i (by omega) hlt (by omega)
    omega
theorem iss_l0 (L : List S45) (hok : lokB L = true) (hL : L.length ≤ 10) (n : Nat) (h8 : n ≤ 8) (F1 F : List S49) (h1 : F1.length ≤ 1048576) (hF : F.length = n * L.length) (hrise : F.Pairwise (fun a b => a.f0 < b.f0)) (hb : ∀ s ∈ F, 0 ≤ s.f0 ∧ s.f0 ≤ 10000) (hw : wt 0 F1 = itsZ L) :
    ∀ d (i : Nat), F.length - i = d → 1 ≤ i → Ev (fun k => laws_FnIssues.l0 k L (n : Int) F1 F (i : Int)) true := by
  have hlen := itsZ_length L hok
  have hsz : n * L.length ≤ 8 * 10 := Nat.mul_le_mul h8 hL
  intro d
  induction d with
  | zero =>
    intro i hd hi
    have c1 : ¬ (i : Int) < (F.length : Int) := by omega
    have e1 := impl_WarpTimes_ev F1 0 h1
    have e2 := impl_IssueTimes_ev L (by omega)
    have e3 := same_ev (itsZ L) (by omega)
    have hF2 : F.length ≤ 1099511627776 := by omega
    have g1 : impl_CyclesOf.f F = some (cycOf F) := by unfold impl_CyclesOf.f; rw [if_pos hF2]
    have g2 : impl_IdleCycles.f F = some (cycIdle F) := by unfold impl_IdleCycles.f; rw [if_pos hF2]
    have hc : cycOk F = true := by
      unfold cycOk
      rw [List.all_eq_true]
      intro s hs
      have := hb s hs
      exact (inR_iff _ _ _).2 (by omega)
    have hm := cycMax_bd F hc
    have hsr := size_rise F hrise F.length (Nat.le_refl _)
    have hci : cycIdle F = wrap64 (cycOf F - (F.length : Int)) := by unfold cycIdle; rw [if_pos hc, hsr]
    have hco : cycOf F = cycMax F + 1 := by unfold cycOf; rw [if_pos hc]
    have e4 : wrap64 ((n : Int) * (L.length : Int)) = (F.length : Int) := by
      have : (n : Int) * (L.length : Int) = ((n * L.length : Nat) : Int) := by simp
      rw [this, ← hF]
      unfold wrap64; omega
    have e5 : (cycOf F == wrap64 ((F.length : Int) + cycIdle F)) = true := by
      rw [beq_iff_eq, hci, hco]
      clear e4 hci hco
      unfold wrap64; omega
    refine Ev.step (f := fun k => (impl_WarpTimes.f k F1 0).bind fun t751 => ((impl_IssueTimes.f k L).bind fun t754 => ((laws_sameInts.f k t751 t754).bind fun t757 => (if t757 = true then (if (F.length : Int) = (wrap64 ((n : Int) * (L.length : Int))) then ((impl_CyclesOf.f F).bind fun t758 => ((impl_IdleCycles.f F).bind fun t759 => (some (t758 == (wrap64 ((wrap64 ((n : Int) * (L.length : Int))) + t759)))))) else (some false)) else (some false))))) (fun k => ?_) ?_
    · simp only [laws_FnIssues.l0]
      rw [if_neg c1]
    · refine Ev.bind e1 (Ev.bind e2 ?_)
      rw [hw]
      refine Ev.bind e3 ?_
      simp only [e4, if_true, g1, g2, Option.bind_some, e5]
      exact Ev.now _
  | succ d ih =>
    intro i hd hi
    obtain ⟨j, rfl⟩ : ∃ j, i = j + 1 := ⟨i - 1, by omega⟩
    have hlt : j + 1 < F.length := by omega
    have hih := ih (j + 1 + 1) (by omega) (by omega)
    have hr := List.pairwise_iff_getElem.1 hrise j (j + 1) (by omega) hlt (by omega)
    have c1 : ((j + 1 : Nat) : Int) < (F.length : Int) := by omega
    have c2 : (0 : Int) ≤ ((j + 1 : Nat) : Int) := by omega
    have c3 : (0 : Int) ≤ (j : Int) := by omega
    have c4 : (j : Int) < (F.length : Int) := by omega
    have c5 : ¬ (rd_T49 F ((j + 1 : Nat) : Int)).f0 ≤ (rd_T49 F (j : Int)).f0 := by
      rw [rdSlotW F (j + 1) hlt, rdSlotW F j (by omega)]; omega
    have a3 : j + 1 < 1000000 := by omega
    have e3 : wrap64 (((j + 1 : Nat) : Int) - 1) = (j : Int) := by unfold wrap64; omega
    have e2 := wrap_nat' (j + 1) a3
    refine Ev.step (fun k => ?_) hih
    simp only [laws_FnIssues.l0]
    rw [if_pos c1, if_pos c2, e3, if_pos c3, if_pos c4, if_neg c5, e2]
theorem FnIssues : ∀ (l0 : List Int), l0.length ≤ maxLen → l0.length * 1 ≤ 140737488351232 → (∀ x ∈ l0, (Lit.int .u8 x).wf = true) → ∃ k, laws_FnIssues.f k l0 = some true := by
  intro l _ hl _
  have hll : l.length ≤ 140737488351232 := by omega
  obtain ⟨L, hL, hok, eL⟩ := DrawList_ev l hll
  obtain ⟨p, hp, hpr, eP⟩ := DrawPlaces_ev l hll
  have hp0 : 0 ≤ rd p 0 ∧ rd p 0 < 10000 := by
    have e : rd p 0 = rd p ((0 : Nat) : Int) := rfl
    rw [e, rd_at p 0 (by omega)]; exact hpr _ (List.getElem_mem _)
  have hp1 : 0 ≤ rd p 1 ∧ rd p 1 < 10000 := by
    have e : rd p 1 = rd p ((1 : Nat) : Int) := rfl
    rw [e, rd_at p 1 (by omega)]; exact hpr _ (List.getElem_mem _)
  have hm : 0 ≤ Int.tmod (rd p 0) 8 ∧ Int.tmod (rd p 0) 8 < 8 := by
    rw [Int.tmod_eq_emod_of_nonneg hp0.1]; omega
  have hpo : inR 0 1 (Int.tmod (rd p 1) 2) = true := by
    rw [inR_iff, Int.tmod_eq_emod_of_nonneg hp1.1]; omega
  obtain ⟨m, hmm⟩ := Int.eq_ofNat_of_zero_le hm.1
  have hn : wrap64 (1 + Int.tmod (rd p 0) 8) = ((m + 1 : Nat) : Int) := by rw [hmm]; unfold wrap64; omega
  have h8 : m + 1 ≤ 8 := by clear hn; omega
  generalize hpol : Int.tmod (rd p 1) 2 = pol at hpo
  obtain ⟨F1, r1, i1, _⟩ := sched_ex L hok 1 (by clear hn; omega) (by clear hn; omega) pol hpo
  obtain ⟨F, r0, i0, _⟩ := sched_ex L hok (m + 1) (by clear hn; omega) h8 pol hpo
  have hv := Vs.start L (m + 1) (by clear hn; omega) h8
  have hv1 := Vs.start L 1 (by clear hn; omega) (by clear hn; omega)
  obtain ⟨l0, rs, bd, _⟩ := run_warps hok hv r0
  obtain ⟨l1, _, _, w1⟩ := run_warps hok hv1 r1
  have hz := run_first hok (fun w => by
    unfold nextFr
    split
    · exact Int.emod_one _
    · rfl) r1 (HI.start L 1 hv1) rfl (FI.start L 1 (by clear hn; omega))
  have hlen := itsZ_length L hok
  have hwl : (wt 0 F1).length = L.length := (w1 0 (by clear hn; omega)).1
  have hw : wt 0 F1 = itsZ L := by
    refine List.ext_getElem (by clear hn; omega) fun k h1 h2 => ?_
    rw [← rd_at _ k h1, ← rd_at _ k h2, hz k h1, itsZ_at L hok k (by clear hn; omega)]
  have c1 : (0 : Int) < (p.length : Int) := by clear hn; omega
  have c2 : (1 : Int) < (p.length : Int) := by clear hn; omega
  have key := iss_l0 L hok hL (m + 1) h8 F1 F (by clear hn; omega) l0 rs bd hw (F.length - 1) 1 rfl (by clear hn; omega)
  by_cases hb : decide ((l.length : Int) > 1048576) = true
  · refine ⟨0, ?_⟩
    unfold laws_FnIssues.f laws_big.f
    rw [Option.bind_some, if_pos hb]
  · have hall : Ev (fun k => laws_FnIssues.f k l) true := by
      refine Ev.congr (f := fun k => (spec_DrawList.f k l).bind fun t734 => ((spec_DrawPlaces.f k l).bind fun t737 => (if 0 < (t737.length : Int) then (if 1 < (t737.length : Int) then ((impl_IssueAll.f k t734 1 (Int.tmod (rd t737 1) 2)).bind fun t742 => ((impl_IssueAll.f k t734 (wrap64 (1 + (Int.tmod (rd t737 0) 8))) (Int.tmod (rd t737 1) 2)).bind fun t746 => (laws_FnIssues.l0 k t734 (wrap64 (1 + (Int.tmod (rd t737 0) 8))) t742 t746 1))) else (none)) else (none)))) (fun k => ?_) ?_
      · unfold laws_FnIssues.f laws_big.f
        rw [Option.bind_some, if_neg hb]
      · refine Ev.bind eL (Ev.bind eP ?_)
        simp only [if_pos c1, if_pos c2, hn, hpol]
        exact Ev.bind i1 (Ev.bind i0 key)
    exact hall.rounds

end Go.Proofs.Ytopckcppmpmcnaa.Q
