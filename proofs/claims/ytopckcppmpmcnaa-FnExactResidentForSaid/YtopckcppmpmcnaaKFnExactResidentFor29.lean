/- When a list of instructions is valid: the program's and the reference's test alike. -/
import Derived.Test.YtopckcppmpmcnaaKFnExactResidentFor28
namespace Go.Proofs.Ytopckcppmpmcnaa.Q
open Go.RowKit Go.Proofs.YtopckcppmpmcnaaW.PrintWords Go.Proofs.YtopckcppmpmcnaaW.PrintLast Go.Proofs.YtopckcppmpmcnaaW.PrintMore
set_option linter.unusedVariables false
set_option linter.unusedSimpArgs false

def insGood (x : S45) : Bool := insOkB x.f0 x.f1 x.f2 x.f3 32 && !(inR 10 12 x.f0) && !(decide (x.f0 = 16))
def lokB (l : List S45) : Bool := decide (l.length ≤ 32) && l.all insGood
theorem listOk_1_f (x : S45) : impl_ListOk_1.f x.f0 x.f1 x.f2 x.f3 = some (!insGood x) := by
  unfold impl_ListOk_1.f insGood
  rw [insOk_f, Option.bind_some, within_f, Option.bind_some]
  have e : (x.f0 == 16) = decide (x.f0 = 16) := by by_cases h : x.f0 = 16 <;> simp [h]
  rw [e]
  cases insOkB x.f0 x.f1 x.f2 x.f3 32 <;> cases inR 10 12 x.f0 <;> cases decide (x.f0 = 16) <;> simp
theorem conIns_f (p : S45 → Option Bool) (q : S45 → Bool) (hp : ∀ x, p x = some (q x)) (l : List S45) (hl : l.length ≤ 1099511627776) : ∀ k, l.length < k → conIns p k l = some (l.any q) := by
  have key : ∀ d k (i : Nat), i ≤ l.length → l.length - i = d → d < k → ∃ r, idxIns p k l i = some r ∧ decide (r ≥ 0) = (l.drop i).any q := by
    intro d
    induction d with
    | zero =>
      intro k i hi hd hk
      obtain ⟨k, rfl⟩ : ∃ m, k = m + 1 := ⟨k - 1, by omega⟩
      refine ⟨-1, by simp only [idxIns]; rw [if_neg (by omega)], ?_⟩
      rw [List.drop_of_length_le (by omega)]; rfl
    | succ d ih =>
      intro k i hi hd hk
      obtain ⟨k, rfl⟩ : ∃ m, k = m + 1 := ⟨k - 1, by omega⟩
      have hlt : i < l.length := by omega
      rw [List.drop_eq_getElem_cons hlt, List.any_cons]
      by_cases hq : q l[i] = true
      · refine ⟨i, ?_, ?_⟩
        · simp only [idxIns]; rw [if_pos (by omega), if_pos (by omega), rdIns l i hlt, hp, Option.bind_some, if_pos hq]
        · simp [hq]
      · obtain ⟨r, h1, h2⟩ := ih k (i + 1) (by omega) (by omega) (by omega)
        refine ⟨r, ?_, by rw [h2]; simp [hq]⟩
        simp only [idxIns]; rw [if_pos (by omega), if_pos (by omega), rdIns l i hlt, hp, Option.bind_some, if_neg hq, wrap_succ hlt (by omega)]
        exact h1
  intro k hk
  obtain ⟨r, h1, h2⟩ := key l.length k 0 (by omega) (by omega) (by omega)
  unfold conIns
  rw [show (0 : Int) = ((0 : Nat) : Int) from rfl, h1, Option.bind_some]
  simpa using h2
theorem impl_ListOk_ev (l : List S45) (hl : l.length ≤ 1099511627776) : Ev (fun k => impl_ListOk.f k l) (lokB l) := by
  refine Ev.of (fun k => impl_ListOk.mono l k) (k := l.length + 1) ?_
  unfold impl_ListOk.f lokB
  by_cases h : (l.length : Int) ≤ 32
  · rw [if_pos h, conIns_f _ (fun x => !insGood x) (fun x => listOk_1_f x) l hl _ (by omega), Option.bind_some, show (!l.any fun x => !insGood x) = l.all insGood from by simp [List.all_eq_not_any_not], decide_eq_true (by omega), Bool.true_and]
  · rw [if_neg h, decide_eq_false (by omega), Bool.false_and]
theorem spec_ListOk_ev (l : List S45) (hl : l.length ≤ 1099511627776) : Ev (fun k => spec_ListOk.f k l) (lokB l) := by
  have key : ∀ d k (i : Nat), i ≤ l.length → l.length - i = d → d + 3 < k → spec_ListOk.l0 k l i = some (decide (l.length ≤ 32) && (l.drop i).all insGood) := by
    intro d
    induction d with
    | zero =>
      intro k i hi hd hk
      obtain ⟨k, rfl⟩ : ∃ m, k = m + 1 := ⟨k - 1, by omega⟩
      simp only [spec_ListOk.l0]
      rw [if_neg (by omega), List.drop_of_length_le (by omega)]
      simp
      omega
    | succ d ih =>
      intro k i hi hd hk
      obtain ⟨k, rfl⟩ : ∃ m, k = m + 1 := ⟨k - 1, by omega⟩
      have hlt : i < l.length := by omega
      simp only [spec_ListOk.l0]
      rw [if_pos (by omega), if_pos (by omega), rdIns l i hlt, spec_insOk_ev _ _ _ _ _ k (by omega), Option.bind_some, List.drop_eq_getElem_cons hlt, List.all_cons, wrap_succ hlt (by omega), ih k (i + 1) (by omega) (by omega) (by omega)]
      have hg : insGood l[i] = (insOkB l[i].f0 l[i].f1 l[i].f2 l[i].f3 32 && !(inR 10 12 l[i].f0) && !(decide (l[i].f0 = 16))) := rfl
      by_cases h0 : insOkB l[i].f0 l[i].f1 l[i].f2 l[i].f3 32 = true
      · rw [if_pos h0]
        by_cases h1 : l[i].f0 = 10
        · rw [if_pos h1, hg, h1]; simp [inR]
        · rw [if_neg h1]
          by_cases h2 : l[i].f0 = 11
          · rw [if_pos h2, hg, h2]; simp [inR]
          · rw [if_neg h2]
            by_cases h3 : l[i].f0 = 12
            · rw [if_pos h3, hg, h3]; simp [inR]
            · rw [if_neg h3]
              by_cases h4 : l[i].f0 = 16
              · rw [if_pos h4, hg, h4]; simp
              · rw [if_neg h4, hg, h0, decide_eq_false h4, show inR 10 12 l[i].f0 = false from by rw [inR_false]; omega]; simp
      · rw [if_neg h0, hg, Bool.eq_false_iff.mpr h0]; simp
  refine Ev.of (fun k => spec_ListOk.mono l k) (k := l.length + 4) ?_
  unfold spec_ListOk.f lokB
  simpa using key l.length (l.length + 4) 0 (by omega) (by omega) (by omega)

end Go.Proofs.Ytopckcppmpmcnaa.Q
