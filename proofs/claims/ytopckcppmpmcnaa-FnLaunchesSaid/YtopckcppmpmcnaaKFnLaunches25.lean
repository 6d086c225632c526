/- The pure statement of FnLaunches. -/
import Derived.Test.YtopckcppmpmcnaaKFnLaunches24
namespace Go.Proofs.Ytopckcppmpmcnaa.Q
open Go.RowKit Go.Proofs.YtopckcppmpmcnaaW.PrintWords Go.Proofs.YtopckcppmpmcnaaW.PrintLast Go.Proofs.YtopckcppmpmcnaaW.PrintMore
set_option linter.unusedVariables false
set_option linter.unusedSimpArgs false

theorem downS_falling (l : List Int) (i : Nat) (h : i + 1 < (downS l).length) : rd (downS l) ((i + 1 : Nat) : Int) ≤ rd (downS l) (i : Int) := by
  have hs : Falling (downS l) := by
    have := List.pairwise_mergeSort (le := fun x y : Int => decide (y ≤ x)) (fun a b c h1 h2 => by simp at *; omega) (fun a b => by simp; omega) l
    exact this.imp (fun h => by simpa using h)
  unfold Falling at hs
  rw [List.pairwise_iff_getElem] at hs
  rw [rd_at _ _ h, rd_at _ _ (by omega)]
  exact hs i (i + 1) (by omega) h (by omega)
theorem launch_l1 (T a s : List Int) (n m least : Int) (ha : a.length = T.length) (hs : s.length = T.length) (h1 : least ≤ m) (h2 : m ≤ 2 * least) (h3 : 0 ≤ least) (h4 : least ≤ 100000000) (hn : T.length ≤ 60)
    (hf : ∀ i : Nat, i + 1 < s.length → rd s ((i + 1 : Nat) : Int) ≤ rd s (i : Int)) (hL : Ev (fun k => impl_LeastSpan.f k s n) least) :
    ∀ d (i : Nat), s.length - i = d → Ev (fun k => laws_FnLaunches.l1 k T n a m least s ((i + 1 : Nat) : Int)) true := by
  have hend : ∀ i : Nat, ¬ i + 1 < s.length → Ev (fun k => laws_FnLaunches.l1 k T n a m least s ((i + 1 : Nat) : Int)) true := by
    intro i hi
    have c1 : ¬ ((i + 1 : Nat) : Int) < (s.length : Int) := by omega
    have c2 : (a.length : Int) = (T.length : Int) := by omega
    have c3 : (s.length : Int) = (T.length : Int) := by omega
    have c4 : m ≥ least := by omega
    have c5 : m ≤ 2 * least := by omega
    have hw : wrap64 (2 * least) = 2 * least := by unfold wrap64; omega
    refine Ev.step (f := fun k => (impl_LeastSpan.f k s n).bind fun t901 => some (t901 == least)) (fun k => ?_) (Ev.bind (f := fun k t901 => some (t901 == least)) hL (by simp; exact Ev.now _))
    simp only [laws_FnLaunches.l1]
    rw [if_neg c1, if_pos c2, if_pos c3, if_pos c4, hw, if_pos c5]
  intro d
  induction d with
  | zero =>
    intro i hd
    exact hend i (by omega)
  | succ d ih =>
    intro i hd
    by_cases hi : i + 1 < s.length
    · have h0 := hf i hi
      have c1 : ((i + 1 : Nat) : Int) < (s.length : Int) := by omega
      have c2 : (0 : Int) ≤ ((i + 1 : Nat) : Int) := by omega
      have c3 : (0 : Int) ≤ (i : Int) := by omega
      have c4 : (i : Int) < (s.length : Int) := by omega
      have c5 : ¬ rd s ((i + 1 : Nat) : Int) > rd s (i : Int) := by omega
      have hn := ih (i + 1) (by omega)
      have e1 : wrap64 (((i + 1 : Nat) : Int) - 1) = (i : Int) := by unfold wrap64; omega
      have e2 : wrap64 (((i + 1 : Nat) : Int) + 1) = ((i + 1 + 1 : Nat) : Int) := by clear e1; unfold wrap64; omega
      refine Ev.step (fun k => ?_) hn
      simp only [laws_FnLaunches.l1]
      rw [if_pos c1, if_pos c2, e1, if_pos c3, if_pos c4, if_neg c5, e2]
    · exact hend i hi
theorem launch_l0 (T a s : List Int) (n m least : Int) (hn : a.length ≤ 60) (ha : ∀ x ∈ a, 0 ≤ x ∧ x < n) (h1 : Ev (fun k => laws_FnLaunches.l1 k T n a m least s 1) true) :
    ∀ d (i : Nat), a.length - i = d → Ev (fun k => laws_FnLaunches.l0 k T n a m least s (i : Int)) true := by
  intro d
  induction d with
  | zero =>
    intro i hd
    refine Ev.step (fun k => ?_) h1
    simp only [laws_FnLaunches.l0]
    rw [if_neg (by omega)]
  | succ d ih =>
    intro i hd
    have hi : i < a.length := by omega
    have hx := ha _ (rd_mem a i hi)
    have c1 : (i : Int) < (a.length : Int) := by omega
    have c2 : (0 : Int) ≤ (i : Int) := by omega
    have c3 : ¬ rd a (i : Int) < 0 := by omega
    have c4 : ¬ rd a (i : Int) ≥ n := by omega
    have hn := ih (i + 1) (by omega)
    have e2 : wrap64 ((i : Int) + 1) = ((i + 1 : Nat) : Int) := by unfold wrap64; omega
    refine Ev.step (fun k => ?_) hn
    simp only [laws_FnLaunches.l0]
    rw [if_pos c1, if_pos c2, if_neg c3, if_neg c4, e2]
theorem FnLaunches : ∀ (l0 : List Int), l0.length ≤ maxLen → l0.length * 1 ≤ 140737488351232 → (∀ x ∈ l0, (Lit.int .u8 x).wf = true) → ∃ k, laws_FnLaunches.f k l0 = some true := by
  intro l _ hl _
  have hll : l.length ≤ 140737488351232 := by omega
  obtain ⟨T, hT, eT⟩ := DrawTimes_ev l hll
  obtain ⟨p, hp, hpx, eP⟩ := DrawPlaces_ev l hll
  have hp0 := hpx _ (rd_mem p 0 (by omega))
  have hm : Int.tmod (rd p ((0 : Nat) : Int)) 8 = rd p ((0 : Nat) : Int) % 8 := Int.tmod_eq_emod_of_nonneg hp0.1
  obtain ⟨c, hc⟩ : ∃ c : Nat, 1 + rd p ((0 : Nat) : Int) % 8 = (c : Int) := ⟨(1 + rd p ((0 : Nat) : Int) % 8).toNat, by omega⟩
  have hc1 : 1 ≤ c ∧ c ≤ 8 := by omega
  have HW := Aside0.mk (show wrap64 (1 + Int.tmod (rd p 0) 8) = (c : Int) by
    have e : Int.tmod (rd p 0) 8 = rd p ((0 : Nat) : Int) % 8 := hm
    rw [e, hc]; unfold wrap64; omega)
  clear hm hp0 hpx hc
  have hn := timesB_len hT
  obtain ⟨eM, hlo, hhi, hz0, hz1⟩ := Makespan_ev T c (by omega) hc1.2 hT
  have eA := impl_AssignBlocks_ev T (c : Int)
  have hA : asgZ T (c : Int) = asg T (List.replicate c 0) [] := by
    unfold asgZ
    rw [if_pos ⟨hT, (inR_iff _ _ _).2 (by omega)⟩, Int.toNat_natCast]
  rw [hA] at eA
  have eL := LeastSpan_ev T (c : Int) hT (by omega) (by omega)
  have hS : sortZ T = downS T := by unfold sortZ; rw [if_pos hT]
  have hds : timesB (downS T) = true := by
    unfold timesB at hT ⊢
    simp only [Bool.and_eq_true, decide_eq_true_eq, List.all_eq_true] at hT ⊢
    exact ⟨by rw [downS_len]; exact hT.1, fun x hx => hT.2 x ((List.mergeSort_perm T _).mem_iff.1 hx)⟩
  have eS := LeastSpan_ev (downS T) (c : Int) hds (by omega) (by omega)
  rw [show leastZ (downS T) (c : Int) = leastZ T (c : Int) from leastZ_perm (List.mergeSort_perm T _) (c : Int)] at eS
  have hal : (asg T (List.replicate c 0) []).length = T.length := by rw [asg_len]; simp
  have hin : ∀ x ∈ asg T (List.replicate c 0) [], 0 ≤ x ∧ x < (c : Int) := by
    rw [asg_picks]
    intro x hx
    rw [List.nil_append] at hx
    exact picks_in c (by omega) T _ (by simp) x hx
  generalize asg T (List.replicate c 0) [] = a at *
  generalize maxL 0 (loads T (List.replicate c 0) ++ List.replicate (8 - c) 0) = m at *
  generalize leastZ T (c : Int) = least at *
  have e1 := launch_l1 T a (downS T) (c : Int) m least hal (downS_len T) hlo hhi hz0 hz1 hn (downS_falling T) eS ((downS T).length - 0) 0 rfl
  have e0 := launch_l0 T a (downS T) (c : Int) m least (by omega) hin e1 (a.length - 0) 0 rfl
  by_cases hb : decide ((l.length : Int) > 1048576) = true
  · refine ⟨0, ?_⟩
    unfold laws_FnLaunches.f laws_big.f
    rw [Option.bind_some, if_pos hb]
  · have hall : Ev (fun k => laws_FnLaunches.f k l) true := by
      refine Ev.congr (f := fun k => (spec_DrawTimes.f k l).bind fun t882 => ((spec_DrawPlaces.f k l).bind fun t885 => (if 0 < (t885.length : Int) then ((impl_AssignBlocks.f k t882 (wrap64 (1 + (Int.tmod (rd t885 0) 8)))).bind fun t889 => ((impl_Makespan.f k t882 t889).bind fun t892 => ((impl_LeastSpan.f k t882 (wrap64 (1 + (Int.tmod (rd t885 0) 8)))).bind fun t893 => ((impl_SortedTimes.f t882).bind fun t894 => (laws_FnLaunches.l0 k t882 (wrap64 (1 + (Int.tmod (rd t885 0) 8))) t889 t892 t893 t894 0))))) else (none)))) (fun k => ?_) ?_
      · unfold laws_FnLaunches.f laws_big.f
        rw [Option.bind_some, if_neg hb]
      · refine Ev.bind eT (Ev.bind eP ?_)
        simp only [HW.out]
        refine Ev.congr (f := fun k => (impl_AssignBlocks.f k T (c : Int)).bind fun t889 => ((impl_Makespan.f k T t889).bind fun t892 => ((impl_LeastSpan.f k T (c : Int)).bind fun t893 => ((impl_SortedTimes.f T).bind fun t894 => (laws_FnLaunches.l0 k T (c : Int) t889 t892 t893 t894 0))))) (fun k => by rw [if_pos (by omega)]) ?_
        refine Ev.bind eA (Ev.bind eM (Ev.bind eL ?_))
        refine Ev.congr (fun k => ?_) e0
        rw [impl_SortedTimes_f, Option.bind_some, hS]
        rfl
    exact hall.rounds

end Go.Proofs.Ytopckcppmpmcnaa.Q
