/- The pure statement of FnHiding. -/
import Derived.Test.YtopckcppmpmcnaaKFnHiding42
namespace Go.Proofs.Ytopckcppmpmcnaa.Q
open Go.RowKit Go.Proofs.YtopckcppmpmcnaaW.PrintWords Go.Proofs.YtopckcppmpmcnaaW.PrintLast Go.Proofs.YtopckcppmpmcnaaW.PrintMore
set_option linter.unusedVariables false
set_option linter.unusedSimpArgs false

theorem pw_step (s : List Int) (h : s.Pairwise (fun a b => a < b)) (i : Nat) (hi : i + 1 < s.length) : rd s (i : Int) < rd s ((i + 1 : Nat) : Int) := by
  rw [rd_at s i (by omega), rd_at s (i + 1) hi]
  exact List.pairwise_iff_getElem.1 h i (i + 1) _ _ (by omega)
structure WT (l : List S45) (T : List Int) : Prop where
  len : T.length = l.length
  ge : ∀ k : Nat, k < l.length → tmI l k ≤ rd T (k : Int)
  rise : T.Pairwise (fun a b => a < b)
theorem hid_l1 (L : List S45) (hok : lokB L = true) (n : Int) (T0 T1 : List Int) (F0 F1 : List S49) (w : Nat) (h0 : WT L T0) (h1 : WT L T1) (hz : w = 0 → ∀ k : Nat, k < L.length → rd T0 (k : Int) = tmI L k)
    (hnext : Ev (fun k => laws_FnHiding.l0 k L n (itsZ L) F0 F1 (wrap64 ((w : Int) + 1))) true) :
    ∀ d (i : Nat), L.length - i = d → i ≤ L.length → Ev (fun k => laws_FnHiding.l1 k L n (itsZ L) F0 F1 (w : Int) T0 T1 (i : Int)) true := by
  have hn := lokB_len hok
  have hlen := itsZ_length L hok
  have hl0 := h0.len
  have hl1 := h1.len
  intro d
  induction d with
  | zero =>
    intro i hd hi
    have c1 : ¬ (i : Int) < (L.length : Int) := by omega
    refine Ev.step (fun k => ?_) hnext
    simp only [laws_FnHiding.l1]
    rw [if_neg c1]
  | succ d ih =>
    intro i hd hi
    have hlt : i < L.length := by omega
    have hih := ih (i + 1) (by omega) (by omega)
    have hat := itsZ_at L hok i hlt
    have g0 := h0.ge i hlt
    have g1 := h1.ge i hlt
    have c1 : (i : Int) < (L.length : Int) := by omega
    have c2 : (0 : Int) ≤ (i : Int) := by omega
    have c3 : (i : Int) < (T0.length : Int) := by omega
    have c4 : (i : Int) < ((itsZ L).length : Int) := by omega
    have c5 : ¬ rd T0 (i : Int) < tmI L i := by omega
    have c6 : (i : Int) < (T1.length : Int) := by omega
    have c7 : ¬ rd T1 (i : Int) < tmI L i := by omega
    have a3 : i < 1000000 := by omega
    have hzi : w = 0 → rd T0 (i : Int) = tmI L i := fun e => hz e i hlt
    by_cases hi0 : i = 0
    · have d1 : ¬ (i : Int) > 0 := by omega
      have e2 := wrap_nat' i a3
      refine Ev.step (fun k => ?_) hih
      simp only [laws_FnHiding.l1]
      rw [if_pos c1, if_pos c2, if_pos c3, if_pos c4, hat, if_neg c5, if_pos c6, if_neg c7]
      by_cases hw : w = 0
      · have d2 : (w : Int) = 0 := by clear e2; omega
        rw [if_pos d2, if_pos (hzi hw), if_neg d1, e2]
      · have d2 : ¬ (w : Int) = 0 := by clear e2; omega
        rw [if_neg d2, if_neg d1, e2]
    · obtain ⟨j, rfl⟩ : ∃ j, i = j + 1 := ⟨i - 1, by omega⟩
      have p0 := pw_step T0 h0.rise j (by omega)
      have p1 := pw_step T1 h1.rise j (by omega)
      have d1 : ((j + 1 : Nat) : Int) > 0 := by omega
      have d3 : (0 : Int) ≤ (j : Int) := by omega
      have d4 : (j : Int) < (T0.length : Int) := by omega
      have d5 : ¬ rd T0 ((j + 1 : Nat) : Int) ≤ rd T0 (j : Int) := by omega
      have d6 : (j : Int) < (T1.length : Int) := by omega
      have d7 : ¬ rd T1 ((j + 1 : Nat) : Int) ≤ rd T1 (j : Int) := by omega
      have e3 : wrap64 (((j + 1 : Nat) : Int) - 1) = (j : Int) := by unfold wrap64; omega
      have e2 := wrap_nat' (j + 1) a3
      refine Ev.step (fun k => ?_) hih
      simp only [laws_FnHiding.l1]
      rw [if_pos c1, if_pos c2, if_pos c3, if_pos c4, hat, if_neg c5, if_pos c6, if_neg c7]
      by_cases hw : w = 0
      · have d2 : (w : Int) = 0 := by clear e2 e3; omega
        rw [if_pos d2, if_pos (hzi hw), if_pos d1, e3, if_pos d3, if_pos d4, if_neg d5, if_pos d6, if_neg d7, e2]
      · have d2 : ¬ (w : Int) = 0 := by clear e2 e3; omega
        rw [if_neg d2, if_pos d1, e3, if_pos d3, if_pos d4, if_neg d5, if_pos d6, if_neg d7, e2]
theorem hid_l0 (L : List S45) (hok : lokB L = true) (n : Nat) (h8 : n ≤ 8) (F0 F1 : List S49) (hF0 : F0.length ≤ 1048576) (hF1 : F1.length ≤ 1048576)
    (h0 : ∀ w : Nat, w < n → WT L (wt (w : Int) F0)) (h1 : ∀ w : Nat, w < n → WT L (wt (w : Int) F1)) (hz : ∀ k : Nat, k < (wt 0 F0).length → rd (wt 0 F0) (k : Int) = tmI L k) :
    ∀ d (w : Nat), n - w = d → w ≤ n → Ev (fun k => laws_FnHiding.l0 k L (n : Int) (itsZ L) F0 F1 (w : Int)) true := by
  have hn := lokB_len hok
  have hlen := itsZ_length L hok
  intro d
  induction d with
  | zero =>
    intro w hd hw
    have c1 : ¬ (w : Int) < (n : Int) := by omega
    obtain ⟨r, hr, e0, _⟩ := residI L (by omega)
    refine Ev.step (f := fun k => (impl_ResidentFor.f k L).bind fun t710 => (some (t710 != 0))) (fun k => ?_) ?_
    · simp only [laws_FnHiding.l0]
      rw [if_neg c1]
    · refine Ev.bind (f := fun k t710 => some (t710 != 0)) e0 ?_
      have : (r != 0) = true := by simpa using hr
      rw [this]
      exact Ev.now _
  | succ d ih =>
    intro w hd hw
    have hlt : w < n := by omega
    have hih := ih (w + 1) (by omega) (by omega)
    have t0 := h0 w hlt
    have t1 := h1 w hlt
    have hl0 := t0.len
    have hl1 := t1.len
    have c1 : (w : Int) < (n : Int) := by omega
    have c2 : ((wt (w : Int) F0).length : Int) = (L.length : Int) := by omega
    have c3 : ((wt (w : Int) F1).length : Int) = (L.length : Int) := by omega
    have c4 : (((itsZ L).length : Int) != (L.length : Int)) = false := by simp [hlen]
    have a3 : w < 1000000 := by omega
    have e1 := impl_WarpTimes_ev F0 (w : Int) hF0
    have e2 := impl_WarpTimes_ev F1 (w : Int) hF1
    have hz2 : w = 0 → ∀ k : Nat, k < L.length → rd (wt (w : Int) F0) (k : Int) = tmI L k := fun e k hk => by
      subst e; exact hz k (by have e : wt ((0 : Nat) : Int) F0 = wt 0 F0 := rfl; rw [e] at hl0; omega)
    have ew := wrap_nat' w a3
    have key := hid_l1 L hok (n : Int) _ _ F0 F1 w t0 t1 hz2 (by rw [ew]; exact hih) L.length 0 (by clear ew; omega) (by clear ew; omega)
    refine Ev.step (f := fun k => (impl_WarpTimes.f k F0 (w : Int)).bind fun t711 => ((impl_WarpTimes.f k F1 (w : Int)).bind fun t714 => (if (t711.length : Int) = (L.length : Int) then (if (t714.length : Int) = (L.length : Int) then (laws_FnHiding.j1 k L (n : Int) (itsZ L) F0 F1 (w : Int) t711 t714 (((itsZ L).length : Int) != (L.length : Int))) else (laws_FnHiding.j1 k L (n : Int) (itsZ L) F0 F1 (w : Int) t711 t714 true)) else (laws_FnHiding.j1 k L (n : Int) (itsZ L) F0 F1 (w : Int) t711 t714 true)))) (fun k => ?_) ?_
    · simp only [laws_FnHiding.l0]
      rw [if_pos c1]
    · refine Ev.bind e1 (Ev.bind e2 ?_)
      simp only [if_pos c2, if_pos c3, c4]
      refine Ev.step (fun k => ?_) key
      simp only [laws_FnHiding.j1]
      rfl
theorem FnHiding : ∀ (l0 : List Int), l0.length ≤ maxLen → l0.length * 1 ≤ 140737488351232 → (∀ x ∈ l0, (Lit.int .u8 x).wf = true) → ∃ k, laws_FnHiding.f k l0 = some true := by
  intro l _ hl _
  have hll : l.length ≤ 140737488351232 := by omega
  obtain ⟨L, hL, hok, eL⟩ := DrawList_ev l hll
  obtain ⟨p, hp, hpr, eP⟩ := DrawPlaces_ev l hll
  have e1 := impl_IssueTimes_ev L (by omega)
  have hp0 : 0 ≤ rd p 0 ∧ rd p 0 < 10000 := by
    have e : rd p 0 = rd p ((0 : Nat) : Int) := rfl
    rw [e, rd_at p 0 (by omega)]; exact hpr _ (List.getElem_mem _)
  have hm : 0 ≤ Int.tmod (rd p 0) 8 ∧ Int.tmod (rd p 0) 8 < 8 := by
    rw [Int.tmod_eq_emod_of_nonneg hp0.1]; omega
  obtain ⟨m, hmm⟩ := Int.eq_ofNat_of_zero_le hm.1
  have hn : wrap64 (1 + Int.tmod (rd p 0) 8) = ((m + 1 : Nat) : Int) := by rw [hmm]; unfold wrap64; omega
  have h8 : m + 1 ≤ 8 := by clear hn; omega
  obtain ⟨F0, r0, i0, _⟩ := sched_ex L hok (m + 1) (by clear hn; omega) h8 0 (by decide)
  obtain ⟨F1, r1, i1, _⟩ := sched_ex L hok (m + 1) (by clear hn; omega) h8 1 (by decide)
  have hv := Vs.start L (m + 1) (by clear hn; omega) h8
  obtain ⟨l0, _, _, w0⟩ := run_warps hok hv r0
  obtain ⟨l1, _, _, w1⟩ := run_warps hok hv r1
  have hz := run_first hok (fun w => by unfold nextFr; rw [if_neg (by decide)]) r0 (HI.start L (m + 1) hv) rfl (FI.start L (m + 1) (by clear hn; omega))
  have hsz : (m + 1) * L.length ≤ 8 * 10 := Nat.mul_le_mul h8 hL
  have c1 : (0 : Int) < (p.length : Int) := by clear hn; omega
  have key := hid_l0 L hok (m + 1) h8 F0 F1 (by clear hn; omega) (by clear hn; omega) (fun w hw => ⟨(w0 w hw).1, (w0 w hw).2.1, (w0 w hw).2.2⟩) (fun w hw => ⟨(w1 w hw).1, (w1 w hw).2.1, (w1 w hw).2.2⟩) hz (m + 1) 0 (by clear hn; omega) (by clear hn; omega)
  by_cases hb : decide ((l.length : Int) > 1048576) = true
  · refine ⟨0, ?_⟩
    unfold laws_FnHiding.f laws_big.f
    rw [Option.bind_some, if_pos hb]
  · have hall : Ev (fun k => laws_FnHiding.f k l) true := by
      refine Ev.congr (f := fun k => (spec_DrawList.f k l).bind fun t694 => ((spec_DrawPlaces.f k l).bind fun t697 => (if 0 < (t697.length : Int) then ((impl_IssueTimes.f k t694).bind fun t701 => ((impl_IssueAll.f k t694 (wrap64 (1 + (Int.tmod (rd t697 0) 8))) 0).bind fun t704 => ((impl_IssueAll.f k t694 (wrap64 (1 + (Int.tmod (rd t697 0) 8))) 1).bind fun t707 => (laws_FnHiding.l0 k t694 (wrap64 (1 + (Int.tmod (rd t697 0) 8))) t701 t704 t707 0)))) else (none)))) (fun k => ?_) ?_
      · unfold laws_FnHiding.f laws_big.f
        rw [Option.bind_some, if_neg hb]
      · refine Ev.bind eL (Ev.bind eP ?_)
        simp only [if_pos c1, hn]
        exact Ev.bind e1 (Ev.bind i0 (Ev.bind i1 key))
    exact hall.rounds

end Go.Proofs.Ytopckcppmpmcnaa.Q
