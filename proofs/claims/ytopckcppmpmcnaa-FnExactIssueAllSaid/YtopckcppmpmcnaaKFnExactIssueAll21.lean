/- The marks of a list of instructions. -/
import Derived.Test.YtopckcppmpmcnaaKFnExactIssueAll20
namespace Go.Proofs.Ytopckcppmpmcnaa.Q
open Go.RowKit Go.Proofs.YtopckcppmpmcnaaW.PrintWords Go.Proofs.YtopckcppmpmcnaaW.PrintLast Go.Proofs.YtopckcppmpmcnaaW.PrintMore
set_option linter.unusedVariables false
set_option linter.unusedSimpArgs false

theorem markInsS_ev (l : List S45) (m : Int) (h0 : 0 ≤ m) (h1 : m ≤ 1000000000) (h : l.length ≤ 1048576) : ∃ K z q, 0 ≤ q ∧ ∀ k, K ≤ k → laws_markInsS.f k l m = some (q, z) := by
  have key : ∀ d (i : Nat) (x : List S45), x.length = l.length → i ≤ l.length → l.length - i = d → ∃ z, ∀ k, d < k → laws_markInsS.l0 k x (m + 4 * (i : Int)) i = some (m + 4 * (l.length : Int), z) := by
    intro d
    induction d with
    | zero =>
      intro i x hx hi hd
      refine ⟨x, fun k hk => ?_⟩
      obtain ⟨k, rfl⟩ : ∃ m, k = m + 1 := ⟨k - 1, by omega⟩
      obtain rfl : i = l.length := by omega
      simp only [laws_markInsS.l0]
      rw [if_neg (by omega)]
    | succ d ih =>
      intro i x hx hi hd
      have hlt : i < l.length := by omega
      have c1 : (i : Int) < (x.length : Int) := by omega
      have c2 : (0 : Int) ≤ (i : Int) := by omega
      let y1 := x.set (i : Int).toNat (⟨m + 4 * (i : Int), (rd_T45 x i).f1, (rd_T45 x i).f2, (rd_T45 x i).f3⟩ : S45)
      let y2 := y1.set (i : Int).toNat (⟨(rd_T45 y1 i).f0, m + 4 * (i : Int) + 1, (rd_T45 y1 i).f2, (rd_T45 y1 i).f3⟩ : S45)
      let y3 := y2.set (i : Int).toNat (⟨(rd_T45 y2 i).f0, (rd_T45 y2 i).f1, m + 4 * (i : Int) + 1 + 1, (rd_T45 y2 i).f3⟩ : S45)
      let y4 := y3.set (i : Int).toNat (⟨(rd_T45 y3 i).f0, (rd_T45 y3 i).f1, (rd_T45 y3 i).f2, m + 4 * (i : Int) + 1 + 1 + 1⟩ : S45)
      obtain ⟨z, hz⟩ := ih (i + 1) y4 (by simp only [y4, y3, y2, y1, List.length_set]; exact hx) (by omega) (by omega)
      refine ⟨z, fun k hk => ?_⟩
      obtain ⟨k, rfl⟩ : ∃ m, k = m + 1 := ⟨k - 1, by omega⟩
      have hz := hz k (by omega)
      have w1 : wrap64 (m + 4 * (i : Int) + 1) = m + 4 * (i : Int) + 1 := by unfold wrap64; omega
      have w2 : wrap64 (m + 4 * (i : Int) + 1 + 1) = m + 4 * (i : Int) + 1 + 1 := by clear w1; unfold wrap64; omega
      have w3 : wrap64 (m + 4 * (i : Int) + 1 + 1 + 1) = m + 4 * (i : Int) + 1 + 1 + 1 := by clear w1 w2; unfold wrap64; omega
      have w4 : wrap64 (m + 4 * (i : Int) + 1 + 1 + 1 + 1) = m + 4 * ((i + 1 : Nat) : Int) := by clear w1 w2 w3; unfold wrap64; omega
      simp only [laws_markInsS.l0, Option.bind_some]
      rw [if_pos c1, if_pos c2, w1, w2, w3, w4, wrap_succ hlt (by clear w1 w2 w3 w4; omega)]
      exact hz
  obtain ⟨z, hz⟩ := key l.length 0 l rfl (by omega) (by omega)
  refine ⟨l.length + 1, z, m + 4 * (l.length : Int), by omega, fun k hk => ?_⟩
  unfold laws_markInsS.f
  have := hz k (by omega)
  simpa using this

end Go.Proofs.Ytopckcppmpmcnaa.Q
