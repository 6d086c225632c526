/- What the reference's TimesOk comes to. -/
import Derived.Test.YtopckcppmpmcnaaKFnLaunches15
namespace Go.Proofs.Ytopckcppmpmcnaa.Q
open Go.RowKit Go.Proofs.YtopckcppmpmcnaaW.PrintWords Go.Proofs.YtopckcppmpmcnaaW.PrintLast Go.Proofs.YtopckcppmpmcnaaW.PrintMore
set_option linter.unusedVariables false
set_option linter.unusedSimpArgs false

def timesB (l : List Int) : Bool := decide (l.length ≤ 60) && l.all (inR 0 1000000)
theorem impl_TimesOk_f (l : List Int) : impl_TimesOk.f l = some (timesB l) := by
  unfold impl_TimesOk.f timesB
  rw [show (!l.any fun x => !inR 0 1000000 x) = l.all (inR 0 1000000) from by simp [List.all_eq_not_any_not]]
theorem spec_TimesOk_ev (l : List Int) (h : l.length ≤ 35184372088832) : Ev (fun k => spec_TimesOk.f k l) (timesB l) := by
  have key : ∀ d k (i : Nat), i ≤ l.length → l.length - i = d → d < k → spec_TimesOk.l0 k l i = some (decide (l.length ≤ 60) && (l.drop i).all (inR 0 1000000)) := by
    intro d
    induction d with
    | zero =>
      intro k i hi hd hk
      obtain ⟨k, rfl⟩ : ∃ m, k = m + 1 := ⟨k - 1, by omega⟩
      simp only [spec_TimesOk.l0]
      rw [if_neg (by omega), List.drop_of_length_le (by omega)]
      simp
      omega
    | succ d ih =>
      intro k i hi hd hk
      obtain ⟨k, rfl⟩ : ∃ m, k = m + 1 := ⟨k - 1, by omega⟩
      have hlt : i < l.length := by omega
      simp only [spec_TimesOk.l0]
      rw [if_pos (by omega), if_pos (by omega), rd_at l i hlt, l01In_f, Option.bind_some, List.drop_eq_getElem_cons hlt, List.all_cons]
      by_cases hp : inR 0 1000000 l[i] = true
      · rw [if_pos hp, wrap_succ hlt (by omega), ih k (i + 1) (by omega) (by omega) (by omega), hp]; simp
      · rw [if_neg hp, Bool.eq_false_iff.mpr hp]; simp
  refine Ev.of (fun k => spec_TimesOk.mono l k) (k := l.length + 1) ?_
  unfold spec_TimesOk.f timesB
  have := key l.length (l.length + 1) 0 (by omega) (by omega) (by omega)
  simpa using this

end Go.Proofs.Ytopckcppmpmcnaa.Q
