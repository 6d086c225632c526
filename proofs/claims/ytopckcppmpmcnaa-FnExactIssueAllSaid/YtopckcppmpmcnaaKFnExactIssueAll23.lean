/- What the copies, comparisons and marks of lists of slots in the laws come to. -/
import Derived.Test.YtopckcppmpmcnaaKFnExactIssueAll22
namespace Go.Proofs.Ytopckcppmpmcnaa.Q
open Go.RowKit Go.Proofs.YtopckcppmpmcnaaW.PrintWords Go.Proofs.YtopckcppmpmcnaaW.PrintLast Go.Proofs.YtopckcppmpmcnaaW.PrintMore
set_option linter.unusedVariables false
set_option linter.unusedSimpArgs false

def toSlotP (x : S87) : S49 := ⟨x.f0, x.f1, x.f2⟩
theorem rdSlot (l : List S49) (i : Nat) (h : i < l.length) : rd_T49 l (i : Int) = l[i] := by simp [rd_T49, List.getD_eq_getElem?_getD, h]
theorem rdSlotL (l : List S87) (i : Nat) (h : i < l.length) : rd_T87 l (i : Int) = l[i] := by simp [rd_T87, List.getD_eq_getElem?_getD, h]
theorem toSlotS_ev (l : List S87) (h : l.length ≤ 1048576) : Ev (fun k => laws_toSlotS.f k l) (l.map toSlotP) := by
  have key : ∀ d k (i : Nat), i ≤ l.length → l.length - i = d → d < k → laws_toSlotS.l0 k l ((l.map toSlotP).take i ++ List.replicate (l.length - i) z49) i = some (l.map toSlotP) := by
    intro d
    induction d with
    | zero =>
      intro k i hi hd hk
      obtain ⟨k, rfl⟩ : ∃ m, k = m + 1 := ⟨k - 1, by omega⟩
      simp only [laws_toSlotS.l0]
      rw [if_neg (by omega), hd, List.take_of_length_le (by simp; omega)]
      simp
    | succ d ih =>
      intro k i hi hd hk
      obtain ⟨k, rfl⟩ : ∃ m, k = m + 1 := ⟨k - 1, by omega⟩
      have hlt : i < l.length := by omega
      have hf := fill_step (l.map toSlotP) z49 i (by simpa using hlt)
      simp only [List.length_map, List.getElem_map] at hf
      simp only [laws_toSlotS.l0, laws_toSlot.f, Option.bind_some]
      rw [if_pos (by omega), if_pos (by omega), if_pos (by simp; omega), rdSlotL l i hlt, wrap_succ hlt (by omega)]
      rw [show ((i : Int)).toNat = i from by omega, show (⟨l[i].f0, l[i].f1, l[i].f2⟩ : S49) = toSlotP l[i] from rfl, hf]
      exact ih k (i + 1) (by omega) (by omega) (by omega)
  refine Ev.of (fun k => laws_toSlotS.mono l k) (k := l.length + 1) ?_
  unfold laws_toSlotS.f
  rw [if_pos (by omega), if_pos (by omega)]
  have := key l.length (l.length + 1) 0 (by omega) (by omega) (by omega)
  simpa using this
theorem eqSlotS_ev (l : List S49) (h : l.length ≤ 1048576) : Ev (fun k => laws_eqSlotS.f k l l) true := by
  have key : ∀ d k (i : Nat), i ≤ l.length → l.length - i = d → d < k → laws_eqSlotS.l0 k l l i = some true := by
    intro d
    induction d with
    | zero =>
      intro k i hi hd hk
      obtain ⟨k, rfl⟩ : ∃ m, k = m + 1 := ⟨k - 1, by omega⟩
      simp only [laws_eqSlotS.l0]
      rw [if_neg (by omega)]
    | succ d ih =>
      intro k i hi hd hk
      obtain ⟨k, rfl⟩ : ∃ m, k = m + 1 := ⟨k - 1, by omega⟩
      have hlt : i < l.length := by omega
      simp only [laws_eqSlotS.l0, laws_eqSlot.f]
      rw [if_pos (by omega), if_pos (by omega), if_pos (by omega)]
      simp only [if_true, Option.bind_some]
      rw [wrap_succ hlt (by omega)]
      exact ih k (i + 1) (by omega) (by omega) (by omega)
  refine Ev.of (fun k => laws_eqSlotS.mono l l k) (k := l.length + 1) ?_
  unfold laws_eqSlotS.f
  rw [if_pos rfl]
  exact key l.length (l.length + 1) 0 (by omega) (by omega) (by omega)
/-- Marking ends, with a number that isn't negative. -/
theorem markSlotS_ev (l : List S49) (m : Int) (h0 : 0 ≤ m) (h1 : m ≤ 4611686018427387904) (h : l.length ≤ 1048576) : ∃ K z q, 0 ≤ q ∧ ∀ k, K ≤ k → laws_markSlotS.f k l m = some (q, z) := by
  have key : ∀ d (i : Nat) (x : List S49), x.length = l.length → i ≤ l.length → l.length - i = d → ∃ z, ∀ k, d < k → laws_markSlotS.l0 k x (m + 3 * (i : Int)) i = some (m + 3 * (l.length : Int), z) := by
    intro d
    induction d with
    | zero =>
      intro i x hx hi hd
      refine ⟨x, fun k hk => ?_⟩
      obtain ⟨k, rfl⟩ : ∃ m, k = m + 1 := ⟨k - 1, by omega⟩
      obtain rfl : i = l.length := by omega
      simp only [laws_markSlotS.l0]
      rw [if_neg (by omega)]
    | succ d ih =>
      intro i x hx hi hd
      have hlt : i < l.length := by omega
      have w1 : wrap64 (m + 3 * (i : Int) + 1) = m + 3 * (i : Int) + 1 := by unfold wrap64; omega
      have w2 : wrap64 (m + 3 * (i : Int) + 1 + 1) = m + 3 * (i : Int) + 1 + 1 := by unfold wrap64; omega
      have w3 : wrap64 (m + 3 * (i : Int) + 1 + 1 + 1) = m + 3 * ((i + 1 : Nat) : Int) := by unfold wrap64; omega
      let y1 := x.set (i : Int).toNat (⟨m + 3 * (i : Int), (rd_T49 x i).f1, (rd_T49 x i).f2⟩ : S49)
      let y2 := y1.set (i : Int).toNat (⟨(rd_T49 y1 i).f0, m + 3 * (i : Int) + 1, (rd_T49 y1 i).f2⟩ : S49)
      let y3 := y2.set (i : Int).toNat (⟨(rd_T49 y2 i).f0, (rd_T49 y2 i).f1, m + 3 * (i : Int) + 1 + 1⟩ : S49)
      obtain ⟨z, hz⟩ := ih (i + 1) y3 (by simp only [y3, y2, y1, List.length_set]; exact hx) (by omega) (by omega)
      refine ⟨z, fun k hk => ?_⟩
      obtain ⟨k, rfl⟩ : ∃ m, k = m + 1 := ⟨k - 1, by omega⟩
      simp only [laws_markSlotS.l0, Option.bind_some]
      rw [if_pos (by omega), if_pos (by omega), w1, w2, w3, wrap_succ hlt (by omega)]
      exact hz k (by omega)
  obtain ⟨z, hz⟩ := key l.length 0 l rfl (by omega) (by omega)
  refine ⟨l.length + 1, z, m + 3 * (l.length : Int), by omega, fun k hk => ?_⟩
  unfold laws_markSlotS.f
  have := hz k (by omega)
  simpa using this

end Go.Proofs.Ytopckcppmpmcnaa.Q
