/- Loads of cores: what impl.Makespan adds up. -/
import Derived.Test.YtopckcppmpmcnaaKFnLaunches22
namespace Go.Proofs.Ytopckcppmpmcnaa.Q
open Go.RowKit Go.Proofs.YtopckcppmpmcnaaW.PrintWords Go.Proofs.YtopckcppmpmcnaaW.PrintLast Go.Proofs.YtopckcppmpmcnaaW.PrintMore
set_option linter.unusedVariables false
set_option linter.unusedSimpArgs false

/-- The greatest element, at least m. -/
def maxL (m : Int) (l : List Int) : Int := l.foldl mx m
theorem le_mx1 (a b : Int) : a ≤ mx a b := by unfold mx; split <;> omega
theorem le_mx2 (a b : Int) : b ≤ mx a b := by unfold mx; split <;> omega
theorem mx_le {a b c : Int} (h1 : a ≤ c) (h2 : b ≤ c) : mx a b ≤ c := by unfold mx; split <;> omega
theorem maxL_cons (m a : Int) (l : List Int) : maxL m (a :: l) = maxL (mx m a) l := rfl
theorem le_maxL (m : Int) (l : List Int) : m ≤ maxL m l := by
  induction l generalizing m with
  | nil => exact Int.le_refl _
  | cons a l ih => exact Int.le_trans (le_mx1 m a) (ih (mx m a))
theorem mem_le_maxL (m : Int) (l : List Int) (x : Int) (h : x ∈ l) : x ≤ maxL m l := by
  induction l generalizing m with
  | nil => simp at h
  | cons a l ih =>
    rcases List.mem_cons.1 h with rfl | h
    · exact Int.le_trans (le_mx2 m x) (le_maxL (mx m x) l)
    · exact ih (mx m a) h
theorem maxL_le (m : Int) (l : List Int) (b : Int) (hm : m ≤ b) (h : ∀ x ∈ l, x ≤ b) : maxL m l ≤ b := by
  induction l generalizing m with
  | nil => exact hm
  | cons a l ih => exact ih (mx m a) (mx_le hm (h a (by simp))) (fun x hx => h x (by simp [hx]))
theorem Max_ev (l : List Int) (hn : 0 < l.length) (h : l.length ≤ 35184372088832) : Ev (fun k => slices_Max_int_int.f k l) (maxL (l.getD 0 0) (l.drop 1)) := by
  have key : ∀ d k (i : Nat) (m : Int), i ≤ l.length → l.length - i = d → d < k → slices_Max_int_int.l0 k l m i = some (maxL m (l.drop i)) := by
    intro d
    induction d with
    | zero =>
      intro k i m hi hd hk
      obtain ⟨k, rfl⟩ : ∃ m, k = m + 1 := ⟨k - 1, by omega⟩
      simp only [slices_Max_int_int.l0]
      rw [if_neg (by omega), List.drop_of_length_le (by omega)]; rfl
    | succ d ih =>
      intro k i m hi hd hk
      obtain ⟨k, rfl⟩ : ∃ m, k = m + 1 := ⟨k - 1, by omega⟩
      have hlt : i < l.length := by omega
      simp only [slices_Max_int_int.l0]
      rw [if_pos (by omega), if_pos (by omega), rd_at l i hlt, wrap_succ hlt (by omega), ih k (i + 1) _ (by omega) (by omega) (by omega), List.drop_eq_getElem_cons hlt]
      rfl
  refine Ev.of (fun k => slices_Max_int_int.mono l k) (k := l.length + 1) ?_
  unfold slices_Max_int_int.f
  rw [if_neg (by omega), if_pos (by omega)]
  exact key (l.length - 1) (l.length + 1) 1 (rd l 0) (by omega) (by omega) (by omega)

/-- What the loads are after the blocks from i on; none: a core that is none. -/
def spans (t a : List Int) : Nat → List Int → Option (List Int)
  | 0, s => some s
  | n + 1, s => if inR 0 7 (rd a ((t.length - (n + 1) : Nat) : Int)) = true then spans t a n (s.set (rd a ((t.length - (n + 1) : Nat) : Int)).toNat (wrap64 (rd s (rd a ((t.length - (n + 1) : Nat) : Int)) + rd t ((t.length - (n + 1) : Nat) : Int)))) else none
theorem rd_mem (t : List Int) (i : Nat) (h : i < t.length) : rd t (i : Int) ∈ t := by rw [rd_at t i h]; exact List.getElem_mem h
theorem impl_spans (t a : List Int) (ha : a.length = t.length) (hl : t.length ≤ 35184372088832) (h0 : ∀ x ∈ t, inR 0 1000000 x = true) :
    ∀ (n : Nat) (s : List Int), n ≤ t.length → s.length = 8 → Ev (fun k => impl_Makespan.l0 k t s a (a.length : Int) ((t.length - n : Nat) : Int)) (match spans t a n s with | some z => maxL (z.getD 0 0) (z.drop 1) | none => -1) := by
  intro n
  induction n with
  | zero =>
    intro s hn hs
    refine Ev.step (f := fun k => (slices_Max_int_int.f k s).bind fun t319 => (some t319)) (fun k => ?_) ?_
    · simp only [impl_Makespan.l0]; rw [if_neg (by omega)]
    · exact Ev.bind (Max_ev s (by omega) (by omega)) (Ev.now _)
  | succ n ih =>
    intro s hn hs
    have hlt : t.length - (n + 1) < t.length := by omega
    have hw : wrap64 (((t.length - (n + 1) : Nat) : Int) + 1) = ((t.length - n : Nat) : Int) := by unfold wrap64; omega
    by_cases hc : inR 0 7 (rd a ((t.length - (n + 1) : Nat) : Int)) = true
    · have hr := (inR_iff _ _ _).1 hc
      refine Ev.step (fun k => ?_) (f := fun k => impl_Makespan.l0 k t (s.set (rd a ((t.length - (n + 1) : Nat) : Int)).toNat (wrap64 (rd s (rd a ((t.length - (n + 1) : Nat) : Int)) + rd t ((t.length - (n + 1) : Nat) : Int)))) a (a.length : Int) ((t.length - n : Nat) : Int)) ?_
      · simp only [impl_Makespan.l0]
        rw [if_pos (by omega), if_pos (by omega), if_pos (by omega), within_f, Option.bind_some, if_pos hc, if_pos hr.1, if_pos (by omega), if_pos (by omega), hw]
      · rw [spans, if_pos hc]
        exact ih _ (by omega) (by simpa using hs)
    · rw [spans, if_neg hc]
      refine Ev.step (f := fun k => some (-1)) (fun k => ?_) (Ev.now _)
      simp only [impl_Makespan.l0]
      rw [if_pos (by omega), if_pos (by omega), if_pos (by omega), within_f, Option.bind_some, if_neg hc]
/-- Loads that stay small: nothing wraps, and the greatest load is the greatest that was reached. -/
theorem max_same (z : List Int) (hz : z.length = 8) (h : ∀ x ∈ z, 0 ≤ x) : maxL (z.getD 0 0) (z.drop 1) = maxL 0 z := by
  match z, hz with
  | x :: z, _ =>
    have := h x (by simp)
    have e : mx 0 x = x := by unfold mx; split <;> omega
    simp [maxL, e]


end Go.Proofs.Ytopckcppmpmcnaa.Q
