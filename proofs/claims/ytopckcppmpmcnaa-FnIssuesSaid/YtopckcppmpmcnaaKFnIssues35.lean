/- The cycles of a warp. -/
import Derived.Test.YtopckcppmpmcnaaKFnIssues34
namespace Go.Proofs.Ytopckcppmpmcnaa.Q
open Go.RowKit Go.Proofs.YtopckcppmpmcnaaW.PrintWords Go.Proofs.YtopckcppmpmcnaaW.PrintLast Go.Proofs.YtopckcppmpmcnaaW.PrintMore
set_option linter.unusedVariables false
set_option linter.unusedSimpArgs false

theorem rdSlotW (l : List S49) (i : Nat) (h : i < l.length) : rd_T49 l (i : Int) = l[i] := by simp [rd_T49, List.getD_eq_getElem?_getD, h]
def wt (w : Int) (l : List S49) : List Int := (l.filter fun s => decide (s.f1 = w)).map fun s => s.f0
theorem wt_step (w : Int) (l : List S49) (i : Nat) (h : i < l.length) : wt w (l.take (i + 1)) = if (rd_T49 l (i : Int)).f1 = w then wt w (l.take i) ++ [(rd_T49 l (i : Int)).f0] else wt w (l.take i) := by
  rw [rdSlotW l i h, List.take_add_one]
  unfold wt
  rw [List.filter_append]
  by_cases e : l[i].f1 = w <;> simp [h, e]
theorem wt_len (w : Int) (l : List S49) : (wt w l).length ≤ l.length := by
  unfold wt; rw [List.length_map]; exact List.length_filter_le _ _
theorem impl_WarpTimes_ev (l : List S49) (w : Int) (hl : l.length ≤ 1048576) : Ev (fun k => impl_WarpTimes.f k l w) (wt w l) := by
  have key : ∀ d k (i : Nat), i ≤ l.length → l.length - i = d → d < k → impl_WarpTimes.l0 k w (wt w (l.take i)) l (l.length : Int) i = some (wt w l) := by
    intro d
    induction d with
    | zero =>
      intro k i hi hd hk
      obtain ⟨k, rfl⟩ : ∃ m, k = m + 1 := ⟨k - 1, by omega⟩
      simp only [impl_WarpTimes.l0]
      rw [if_neg (by omega), List.take_of_length_le (by omega)]
    | succ d ih =>
      intro k i hi hd hk
      obtain ⟨k, rfl⟩ : ∃ m, k = m + 1 := ⟨k - 1, by omega⟩
      have hlt : i < l.length := by omega
      have hs := wt_step w l i hlt
      have hln := wt_len w (l.take i)
      rw [List.length_take] at hln
      simp only [impl_WarpTimes.l0]
      rw [if_pos (by omega), if_pos (by omega), if_pos (by omega)]
      by_cases e : (rd_T49 l (i : Int)).f1 = w
      · rw [if_pos e] at hs ⊢
        rw [if_pos (by omega), ← hs, wrap_succ hlt (by omega)]
        exact ih k (i + 1) (by omega) (by omega) (by omega)
      · rw [if_neg e] at hs ⊢
        rw [← hs, wrap_succ hlt (by omega)]
        exact ih k (i + 1) (by omega) (by omega) (by omega)
  refine Ev.of (fun k => impl_WarpTimes.mono l w k) (k := l.length + 1) ?_
  unfold impl_WarpTimes.f
  exact key l.length (l.length + 1) 0 (by omega) (by omega) (by omega)

end Go.Proofs.Ytopckcppmpmcnaa.Q
