/- What the copies and comparisons of lists of instructions in the laws come to. -/
import Derived.Test.YtopckcppmpmcnaaKFnExactResidentFor26
namespace Go.Proofs.Ytopckcppmpmcnaa.Q
open Go.RowKit Go.Proofs.YtopckcppmpmcnaaW.PrintWords Go.Proofs.YtopckcppmpmcnaaW.PrintLast Go.Proofs.YtopckcppmpmcnaaW.PrintMore
set_option linter.unusedVariables false
set_option linter.unusedSimpArgs false

def toInsP (x : S63) : S45 := ⟨x.f0, x.f1, x.f2, x.f3⟩
theorem rdIns (l : List S45) (i : Nat) (h : i < l.length) : rd_T45 l (i : Int) = l[i] := by simp [rd_T45, List.getD_eq_getElem?_getD, h]
theorem rdInsL (l : List S63) (i : Nat) (h : i < l.length) : rd_T63 l (i : Int) = l[i] := by simp [rd_T63, List.getD_eq_getElem?_getD, h]
theorem toInsS_ev (l : List S63) (h : l.length ≤ 1048576) : Ev (fun k => laws_toInsS.f k l) (l.map toInsP) := by
  have key : ∀ d k (i : Nat), i ≤ l.length → l.length - i = d → d < k → laws_toInsS.l0 k l ((l.map toInsP).take i ++ List.replicate (l.length - i) z45) i = some (l.map toInsP) := by
    intro d
    induction d with
    | zero =>
      intro k i hi hd hk
      obtain ⟨k, rfl⟩ : ∃ m, k = m + 1 := ⟨k - 1, by omega⟩
      simp only [laws_toInsS.l0]
      rw [if_neg (by omega), hd, List.take_of_length_le (by simp; omega)]
      simp
    | succ d ih =>
      intro k i hi hd hk
      obtain ⟨k, rfl⟩ : ∃ m, k = m + 1 := ⟨k - 1, by omega⟩
      have hlt : i < l.length := by omega
      have hf := fill_step (l.map toInsP) z45 i (by simpa using hlt)
      simp only [List.length_map, List.getElem_map] at hf
      simp only [laws_toInsS.l0, laws_toIns.f, Option.bind_some]
      rw [if_pos (by omega), if_pos (by omega), if_pos (by simp; omega), rdInsL l i hlt, wrap_succ hlt (by omega)]
      rw [show ((i : Int)).toNat = i from by omega, show (⟨l[i].f0, l[i].f1, l[i].f2, l[i].f3⟩ : S45) = toInsP l[i] from rfl, hf]
      exact ih k (i + 1) (by omega) (by omega) (by omega)
  refine Ev.of (fun k => laws_toInsS.mono l k) (k := l.length + 1) ?_
  unfold laws_toInsS.f
  rw [if_pos (by omega), if_pos (by omega)]
  have := key l.length (l.length + 1) 0 (by omega) (by omega) (by omega)
  simpa using this
theorem eqInsS_ev (l : List S45) (h : l.length ≤ 1048576) : Ev (fun k => laws_eqInsS.f k l l) true := by
  have key : ∀ d k (i : Nat), i ≤ l.length → l.length - i = d → d < k → laws_eqInsS.l0 k l l i = some true := by
    intro d
    induction d with
    | zero =>
      intro k i hi hd hk
      obtain ⟨k, rfl⟩ : ∃ m, k = m + 1 := ⟨k - 1, by omega⟩
      simp only [laws_eqInsS.l0]
      rw [if_neg (by omega)]
    | succ d ih =>
      intro k i hi hd hk
      obtain ⟨k, rfl⟩ : ∃ m, k = m + 1 := ⟨k - 1, by omega⟩
      have hlt : i < l.length := by omega
      simp only [laws_eqInsS.l0, laws_eqIns.f]
      rw [if_pos (by omega), if_pos (by omega), if_pos (by omega)]
      simp only [if_true, Option.bind_some]
      rw [wrap_succ hlt (by omega)]
      exact ih k (i + 1) (by omega) (by omega) (by omega)
  refine Ev.of (fun k => laws_eqInsS.mono l l k) (k := l.length + 1) ?_
  unfold laws_eqInsS.f
  rw [if_pos rfl]
  exact key l.length (l.length + 1) 0 (by omega) (by omega) (by omega)

end Go.Proofs.Ytopckcppmpmcnaa.Q
