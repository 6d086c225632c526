/- What marking a list of whole numbers, and looking for the marks, comes to. -/
import Derived.Test.YtopckcppmpmcnaaKFnExactIssueAll19
namespace Go.Proofs.Ytopckcppmpmcnaa.Q
open Go.RowKit Go.Proofs.YtopckcppmpmcnaaW.PrintWords Go.Proofs.YtopckcppmpmcnaaW.PrintLast Go.Proofs.YtopckcppmpmcnaaW.PrintMore
set_option linter.unusedVariables false
set_option linter.unusedSimpArgs false

/-- m, m + 1, .. -/
def seqL (m : Int) (n : Nat) : List Int := (List.range n).map fun (j : Nat) => m + (j : Int)
theorem seqL_length (m : Int) (n : Nat) : (seqL m n).length = n := by simp [seqL]
theorem seqL_get (m : Int) (n i : Nat) (h : i < (seqL m n).length) : (seqL m n)[i] = m + i := by simp [seqL]
theorem seqL_step (m : Int) (l : List Int) (i : Nat) (h : i < l.length) : (seqL m i ++ l.drop i).set i (m + i) = seqL m (i + 1) ++ l.drop (i + 1) := by
  apply List.ext_getElem
  · simp [seqL_length]; omega
  · intro j h1 h2
    simp only [List.getElem_set]
    by_cases e : i = j
    · subst e
      rw [if_pos rfl, List.getElem_append_left (by simp [seqL_length]), seqL_get]
    · rw [if_neg e]
      by_cases hj : j < i
      · rw [List.getElem_append_left (by simp [seqL_length]; omega), List.getElem_append_left (by simp [seqL_length]; omega), seqL_get, seqL_get]
      · rw [List.getElem_append_right (by simp [seqL_length]; omega), List.getElem_append_right (by simp [seqL_length]; omega)]
        simp [seqL_length]
        congr 1; omega
theorem markIntS_ev (l : List Int) (m : Int) (hl : l.length ≤ 35184372088832) (h0 : 0 ≤ m) (h1 : m ≤ 4611686018427387904) : Ev (fun k => laws_markIntS.f k l m) (m + (l.length : Int), seqL m l.length) := by
  have key : ∀ d k (i : Nat), i ≤ l.length → l.length - i = d → d < k → laws_markIntS.l0 k (seqL m i ++ l.drop i) (m + i) i = some (m + (l.length : Int), seqL m l.length) := by
    intro d
    induction d with
    | zero =>
      intro k i hi hd hk
      obtain ⟨k, rfl⟩ : ∃ m, k = m + 1 := ⟨k - 1, by omega⟩
      obtain rfl : i = l.length := by omega
      simp only [laws_markIntS.l0]
      rw [if_neg (by simp [seqL_length]), List.drop_length, List.append_nil]
    | succ d ih =>
      intro k i hi hd hk
      obtain ⟨k, rfl⟩ : ∃ m, k = m + 1 := ⟨k - 1, by omega⟩
      have hlt : i < l.length := by omega
      have hw : wrap64 (m + (i : Int) + 1) = m + ((i + 1 : Nat) : Int) := by unfold wrap64; omega
      simp only [laws_markIntS.l0]
      rw [if_pos (by simp [seqL_length]; omega), if_pos (by omega), wrap_succ hlt (by omega), hw, show ((i : Int)).toNat = i from by omega, seqL_step m l i hlt]
      exact ih k (i + 1) (by omega) (by omega) (by omega)
  refine Ev.of (fun k => laws_markIntS.mono l m k) (k := l.length + 1) ?_
  unfold laws_markIntS.f
  have := key l.length (l.length + 1) 0 (by omega) (by omega) (by omega)
  simpa [seqL] using this
theorem heldIntS_ev (m : Int) (n : Nat) (hl : n ≤ 35184372088832) (h0 : 0 ≤ m) (h1 : m ≤ 4611686018427387904) : Ev (fun k => laws_heldIntS.f k (seqL m n) m) (m + (n : Int)) := by
  have key : ∀ d k (i : Nat), i ≤ n → n - i = d → d < k → laws_heldIntS.l0 k (seqL m n) (m + i) i = some (m + (n : Int)) := by
    intro d
    induction d with
    | zero =>
      intro k i hi hd hk
      obtain ⟨k, rfl⟩ : ∃ m, k = m + 1 := ⟨k - 1, by omega⟩
      obtain rfl : i = n := by omega
      simp only [laws_heldIntS.l0]
      rw [if_neg (by simp [seqL_length])]
    | succ d ih =>
      intro k i hi hd hk
      obtain ⟨k, rfl⟩ : ∃ m, k = m + 1 := ⟨k - 1, by omega⟩
      have hlt : i < n := by omega
      have hw : wrap64 (m + (i : Int) + 1) = m + ((i + 1 : Nat) : Int) := by unfold wrap64; omega
      simp only [laws_heldIntS.l0]
      rw [if_pos (by simp [seqL_length]; omega), if_pos (by omega), if_pos (by rw [rd_at _ i (by simp [seqL_length]; omega), seqL_get]), wrap_succ hlt (by omega), hw]
      exact ih k (i + 1) (by omega) (by omega) (by omega)
  refine Ev.of (fun k => laws_heldIntS.mono (seqL m n) m k) (k := n + 1) ?_
  unfold laws_heldIntS.f
  have := key n (n + 1) 0 (by omega) (by omega) (by omega)
  simpa using this

end Go.Proofs.Ytopckcppmpmcnaa.Q
