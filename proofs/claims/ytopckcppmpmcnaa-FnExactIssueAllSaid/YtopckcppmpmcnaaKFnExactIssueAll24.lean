/- What marking a list of slots, and looking for the marks, comes to. -/
import Derived.Test.YtopckcppmpmcnaaKFnExactIssueAll23
namespace Go.Proofs.Ytopckcppmpmcnaa.Q
open Go.RowKit Go.Proofs.YtopckcppmpmcnaaW.PrintWords Go.Proofs.YtopckcppmpmcnaaW.PrintLast Go.Proofs.YtopckcppmpmcnaaW.PrintMore
set_option linter.unusedVariables false
set_option linter.unusedSimpArgs false

def slotMark (m : Int) (i : Nat) : S49 := ⟨m + 3 * (i : Int), m + 3 * (i : Int) + 1, m + 3 * (i : Int) + 1 + 1⟩
theorem rdS_set (x : List S49) (i j : Nat) (v : S49) (hi : i < x.length) : rd_T49 (x.set (i : Int).toNat v) (j : Int) = if j = i then v else rd_T49 x (j : Int) := by
  unfold rd_T49
  simp only [Int.toNat_natCast, List.getD_eq_getElem?_getD, List.getElem?_set]
  by_cases e : i = j
  · subst e; simp [hi]
  · rw [if_neg e, if_neg (fun h => e h.symm)]
theorem markSlotS_z (l : List S49) (m : Int) (h0 : 0 ≤ m) (h1 : m ≤ 1000000000) (h : l.length ≤ 1048576) : ∃ z : List S49, z.length = l.length ∧ (∀ i : Nat, i < l.length → rd_T49 z (i : Int) = slotMark m i) ∧ ∃ K, ∀ k, K ≤ k → laws_markSlotS.f k l m = some (m + 3 * (l.length : Int), z) := by
  have key : ∀ d (i : Nat) (x : List S49), x.length = l.length → i ≤ l.length → l.length - i = d → (∀ j : Nat, j < i → rd_T49 x (j : Int) = slotMark m j) → ∃ z : List S49, z.length = l.length ∧ (∀ i : Nat, i < l.length → rd_T49 z (i : Int) = slotMark m i) ∧ ∀ k, d < k → laws_markSlotS.l0 k x (m + 3 * (i : Int)) i = some (m + 3 * (l.length : Int), z) := by
    intro d
    induction d with
    | zero =>
      intro i x hx hi hd hj
      obtain rfl : i = l.length := by omega
      refine ⟨x, hx, hj, fun k hk => ?_⟩
      obtain ⟨k, rfl⟩ : ∃ m, k = m + 1 := ⟨k - 1, by omega⟩
      simp only [laws_markSlotS.l0]
      rw [if_neg (by omega)]
    | succ d ih =>
      intro i x hx hi hd hj
      have hlt : i < l.length := by omega
      have c1 : (i : Int) < (x.length : Int) := by omega
      have c2 : (0 : Int) ≤ (i : Int) := by omega
      let y1 := x.set (i : Int).toNat (⟨m + 3 * (i : Int), (rd_T49 x i).f1, (rd_T49 x i).f2⟩ : S49)
      let y2 := y1.set (i : Int).toNat (⟨(rd_T49 y1 i).f0, m + 3 * (i : Int) + 1, (rd_T49 y1 i).f2⟩ : S49)
      let y3 := y2.set (i : Int).toNat (⟨(rd_T49 y2 i).f0, (rd_T49 y2 i).f1, m + 3 * (i : Int) + 1 + 1⟩ : S49)
      have z1 : i < x.length := by omega
      have z2 : i < y1.length := by simp only [y1, List.length_set]; omega
      have z3 : i < y2.length := by simp only [y2, y1, List.length_set]; omega
      have q1 : rd_T49 y1 (i : Int) = ⟨m + 3 * (i : Int), (rd_T49 x i).f1, (rd_T49 x i).f2⟩ := by rw [rdS_set x i i _ z1, if_pos rfl]
      have q2 : rd_T49 y2 (i : Int) = ⟨m + 3 * (i : Int), m + 3 * (i : Int) + 1, (rd_T49 x i).f2⟩ := by rw [rdS_set y1 i i _ z2, if_pos rfl, q1]
      obtain ⟨z, hz0, hz1, hz⟩ := ih (i + 1) y3 (by simp only [y3, y2, y1, List.length_set]; exact hx) (by omega) (by omega) (fun j hj2 => by
        rw [rdS_set y2 i j _ z3]
        by_cases e : j = i
        · subst e; rw [if_pos rfl, q2]; rfl
        · rw [if_neg e, rdS_set y1 i j _ z2, if_neg e, rdS_set x i j _ z1, if_neg e]; exact hj j (by omega))
      refine ⟨z, hz0, hz1, fun k hk => ?_⟩
      obtain ⟨k, rfl⟩ : ∃ m, k = m + 1 := ⟨k - 1, by omega⟩
      have hz := hz k (by omega)
      have w1 : wrap64 (m + 3 * (i : Int) + 1) = m + 3 * (i : Int) + 1 := by unfold wrap64; omega
      have w2 : wrap64 (m + 3 * (i : Int) + 1 + 1) = m + 3 * (i : Int) + 1 + 1 := by clear w1; unfold wrap64; omega
      have w3 : wrap64 (m + 3 * (i : Int) + 1 + 1 + 1) = m + 3 * ((i + 1 : Nat) : Int) := by clear w1 w2; unfold wrap64; omega
      simp only [laws_markSlotS.l0, Option.bind_some]
      rw [if_pos c1, if_pos c2, w1, w2, w3, wrap_succ hlt (by clear w1 w2 w3; omega)]
      exact hz
  obtain ⟨z, a, b, c⟩ := key l.length 0 l rfl (by omega) (by omega) (fun j hj => by omega)
  refine ⟨z, a, b, l.length + 1, fun k hk => ?_⟩
  unfold laws_markSlotS.f
  have := c k (by omega)
  simpa using this
theorem heldSlotS_z (z : List S49) (m : Int) (h0 : 0 ≤ m) (h1 : m ≤ 1000000000) (h : z.length ≤ 1048576) (hz : ∀ i : Nat, i < z.length → rd_T49 z (i : Int) = slotMark m i) : Ev (fun k => laws_heldSlotS.f k z m) (m + 3 * (z.length : Int)) := by
  have key : ∀ d (i : Nat), i ≤ z.length → z.length - i = d → Ev (fun k => laws_heldSlotS.l0 k z (m + 3 * (i : Int)) i) (m + 3 * (z.length : Int)) := by
    intro d
    induction d with
    | zero =>
      intro i hi hd
      obtain rfl : i = z.length := by omega
      refine Ev.step (f := fun _ => some (m + 3 * (z.length : Int))) (fun k => ?_) (Ev.now _)
      simp only [laws_heldSlotS.l0]
      rw [if_neg (by omega)]
    | succ d ih =>
      intro i hi hd
      have hlt : i < z.length := by omega
      have hih := ih (i + 1) (by omega) (by omega)
      have hr := hz i hlt
      have c1 : (i : Int) < (z.length : Int) := by omega
      have c2 : (0 : Int) ≤ (i : Int) := by omega
      have a1 : i < 4611686018427387904 := by omega
      have w1 : wrap64 (m + 3 * (i : Int) + 1) = m + 3 * (i : Int) + 1 := by unfold wrap64; omega
      have w2 : wrap64 (m + 3 * (i : Int) + 1 + 1) = m + 3 * (i : Int) + 1 + 1 := by clear w1; unfold wrap64; omega
      have w3 : wrap64 (m + 3 * (i : Int) + 1 + 1 + 1) = m + 3 * ((i + 1 : Nat) : Int) := by clear w1 w2; unfold wrap64; omega
      refine Ev.step (fun k => ?_) hih
      simp only [laws_heldSlotS.l0]
      have w4 := wrap_succ hlt (by clear w1 w2 w3; omega)
      rw [if_pos c1, if_pos c2, hr]
      simp only [slotMark, w1, w2, w3, w4, if_true]
  have h2 := key z.length 0 (by omega) (by omega)
  exact Ev.congr (fun k => by unfold laws_heldSlotS.f; simp) h2

end Go.Proofs.Ytopckcppmpmcnaa.Q
