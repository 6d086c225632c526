/- What marking the rows of a block comes to: the number behind the last mark. -/
import Derived.Test.YtmnkbchieplicaaGreatDoorKFnExactFormatBlock31
namespace Go.Proofs.YtmnkbchieplicaaGreatDoor.Q
open Go Go.RowKit Go.Proofs.YtmnkbchieplicaaGreatDoorW.PrintWords Go.Proofs.YtmnkbchieplicaaGreatDoorW.PrintLast Go.Proofs.YtmnkbchieplicaaGreatDoorW.PrintMore
set_option linter.unusedVariables false
set_option linter.unusedSimpArgs false

theorem markI_ev (l : List MIns) (m : Int) (h0 : 0 ≤ m) (h1 : m ≤ 10000000000000) (h : l.length ≤ 1048576) : ∃ z, Ev (fun k => laws_markInsS.f k l m) (m + 4 * (l.length : Int), z) := by
  have key : ∀ d (i : Nat) (x : List MIns), x.length = l.length → i ≤ l.length → l.length - i = d → ∃ z, ∀ k, d < k → laws_markInsS.l0 k x (m + 4 * (i : Int)) i = some (m + 4 * (l.length : Int), z) := by
    intro d
    induction d with
    | zero =>
      intro i x hx hi hd
      refine ⟨x, fun k hk => ?_⟩
      obtain ⟨k, rfl⟩ : ∃ m, k = m + 1 := ⟨k - 1, by omega⟩
      obtain rfl : i = l.length := by omega
      simp only [laws_markInsS.l0]
      rw [if_neg (by omega)]
    | succ d ih =>
      intro i x hx hi hd
      have hlt : i < l.length := by omega
      have c1 : (i : Int) < (x.length : Int) := by omega
      have c2 : (0 : Int) ≤ (i : Int) := by omega
      let y1 := x.set (i : Int).toNat (⟨m + 4 * (i : Int), (rd_T95 x i).f1, (rd_T95 x i).f2, (rd_T95 x i).f3⟩ : MIns)
      let y2 := y1.set (i : Int).toNat (⟨(rd_T95 y1 i).f0, m + 4 * (i : Int) + 1, (rd_T95 y1 i).f2, (rd_T95 y1 i).f3⟩ : MIns)
      let y3 := y2.set (i : Int).toNat (⟨(rd_T95 y2 i).f0, (rd_T95 y2 i).f1, m + 4 * (i : Int) + 1 + 1, (rd_T95 y2 i).f3⟩ : MIns)
      let y4 := y3.set (i : Int).toNat (⟨(rd_T95 y3 i).f0, (rd_T95 y3 i).f1, (rd_T95 y3 i).f2, m + 4 * (i : Int) + 1 + 1 + 1⟩ : MIns)
      obtain ⟨z, hz⟩ := ih (i + 1) y4 (by simp only [y4, y3, y2, y1, List.length_set]; exact hx) (by omega) (by omega)
      refine ⟨z, fun k hk => ?_⟩
      obtain ⟨k, rfl⟩ : ∃ m, k = m + 1 := ⟨k - 1, by omega⟩
      have hz := hz k (by omega)
      have w1 : wrap64 (m + 4 * (i : Int) + 1) = m + 4 * (i : Int) + 1 := by unfold wrap64; omega
      have w2 : wrap64 (m + 4 * (i : Int) + 1 + 1) = m + 4 * (i : Int) + 1 + 1 := by clear w1; unfold wrap64; omega
      have w3 : wrap64 (m + 4 * (i : Int) + 1 + 1 + 1) = m + 4 * (i : Int) + 1 + 1 + 1 := by clear w1 w2; unfold wrap64; omega
      have w4 : wrap64 (m + 4 * (i : Int) + 1 + 1 + 1 + 1) = m + 4 * ((i + 1 : Nat) : Int) := by clear w1 w2 w3; unfold wrap64; omega
      simp only [laws_markInsS.l0, Option.bind_some]
      rw [if_pos c1, if_pos c2, w1, w2, w3, w4, wS (by clear w1 w2 w3 w4; omega)]
      exact hz
  obtain ⟨z, hz⟩ := key l.length 0 l rfl (by omega) (by omega)
  refine ⟨z, l.length + 1, fun k hk => ?_⟩
  unfold laws_markInsS.f
  have := hz k (by omega)
  simpa using this
theorem markF_ev (l : List MFrm) (m : Int) (h0 : 0 ≤ m) (h1 : m ≤ 10000000000000) (h : l.length ≤ 1048576) : ∃ z, Ev (fun k => laws_markFrameS.f k l m) (m + 3 * (l.length : Int), z) := by
  have key : ∀ d (i : Nat) (x : List MFrm), x.length = l.length → i ≤ l.length → l.length - i = d → ∃ z, ∀ k, d < k → laws_markFrameS.l0 k x (m + 3 * (i : Int)) i = some (m + 3 * (l.length : Int), z) := by
    intro d
    induction d with
    | zero =>
      intro i x hx hi hd
      refine ⟨x, fun k hk => ?_⟩
      obtain ⟨k, rfl⟩ : ∃ m, k = m + 1 := ⟨k - 1, by omega⟩
      obtain rfl : i = l.length := by omega
      simp only [laws_markFrameS.l0]
      rw [if_neg (by omega)]
    | succ d ih =>
      intro i x hx hi hd
      have hlt : i < l.length := by omega
      have c1 : (i : Int) < (x.length : Int) := by omega
      have c2 : (0 : Int) ≤ (i : Int) := by omega
      let y1 := x.set (i : Int).toNat (⟨m + 3 * (i : Int), (rd_T132 x i).f1, (rd_T132 x i).f2⟩ : MFrm)
      let y2 := y1.set (i : Int).toNat (⟨(rd_T132 y1 i).f0, m + 3 * (i : Int) + 1, (rd_T132 y1 i).f2⟩ : MFrm)
      let y3 := y2.set (i : Int).toNat (⟨(rd_T132 y2 i).f0, (rd_T132 y2 i).f1, m + 3 * (i : Int) + 1 + 1⟩ : MFrm)
      obtain ⟨z, hz⟩ := ih (i + 1) y3 (by simp only [y3, y2, y1, List.length_set]; exact hx) (by omega) (by omega)
      refine ⟨z, fun k hk => ?_⟩
      obtain ⟨k, rfl⟩ : ∃ m, k = m + 1 := ⟨k - 1, by omega⟩
      have hz := hz k (by omega)
      have w1 : wrap64 (m + 3 * (i : Int) + 1) = m + 3 * (i : Int) + 1 := by unfold wrap64; omega
      have w2 : wrap64 (m + 3 * (i : Int) + 1 + 1) = m + 3 * (i : Int) + 1 + 1 := by clear w1; unfold wrap64; omega
      have w3 : wrap64 (m + 3 * (i : Int) + 1 + 1 + 1) = m + 3 * ((i + 1 : Nat) : Int) := by clear w1 w2; unfold wrap64; omega
      simp only [laws_markFrameS.l0, Option.bind_some]
      rw [if_pos c1, if_pos c2, w1, w2, w3, wS (by clear w1 w2 w3; omega)]
      exact hz
  obtain ⟨z, hz⟩ := key l.length 0 l rfl (by omega) (by omega)
  refine ⟨z, l.length + 1, fun k hk => ?_⟩
  unfold laws_markFrameS.f
  have := hz k (by omega)
  simpa using this
theorem markN_ev (l : List Int) (m : Int) (h0 : 0 ≤ m) (h1 : m ≤ 10000000000000) (h : l.length ≤ 1048576) : ∃ z, Ev (fun k => laws_markIntS.f k l m) (m + (l.length : Int), z) := by
  have key : ∀ d (i : Nat) (x : List Int), x.length = l.length → i ≤ l.length → l.length - i = d → ∃ z, ∀ k, d < k → laws_markIntS.l0 k x (m + (i : Int)) i = some (m + (l.length : Int), z) := by
    intro d
    induction d with
    | zero =>
      intro i x hx hi hd
      refine ⟨x, fun k hk => ?_⟩
      obtain ⟨k, rfl⟩ : ∃ m, k = m + 1 := ⟨k - 1, by omega⟩
      obtain rfl : i = l.length := by omega
      simp only [laws_markIntS.l0]
      rw [if_neg (by omega)]
    | succ d ih =>
      intro i x hx hi hd
      have hlt : i < l.length := by omega
      let y1 := x.set (i : Int).toNat (m + (i : Int))
      obtain ⟨z, hz⟩ := ih (i + 1) y1 (by simp only [y1, List.length_set]; exact hx) (by omega) (by omega)
      refine ⟨z, fun k hk => ?_⟩
      obtain ⟨k, rfl⟩ : ∃ m, k = m + 1 := ⟨k - 1, by omega⟩
      have hz := hz k (by omega)
      have w1 : wrap64 (m + (i : Int) + 1) = m + ((i + 1 : Nat) : Int) := by unfold wrap64; omega
      simp only [laws_markIntS.l0]
      rw [if_pos (by clear w1; omega), if_pos (by clear w1; omega), w1, wS (by clear w1; omega)]
      exact hz
  obtain ⟨z, hz⟩ := key l.length 0 l rfl (by omega) (by omega)
  refine ⟨z, l.length + 1, fun k hk => ?_⟩
  unfold laws_markIntS.f
  have := hz k (by omega)
  simpa using this
/-- How many marks the warps take. -/
def marksW : List MWrp → Nat
  | [] => 0
  | x :: r => 1 + 3 * x.f1.length + x.f2.length + marksW r
theorem marksW_take (l : List MWrp) : ∀ i, i < l.length → marksW (l.take (i + 1)) = marksW (l.take i) + (1 + 3 * (l.getD i z59).f1.length + (l.getD i z59).f2.length) := by
  induction l with
  | nil => intro i h; cases h
  | cons x r ih =>
    intro i h
    cases i with
    | zero => simp [marksW]
    | succ i =>
      rw [List.take_succ_cons, List.take_succ_cons, marksW, marksW, ih i (by simpa using h)]
      simp only [List.getD_cons_succ]
      omega
theorem marksW_le (l : List MWrp) : ∀ i, marksW (l.take i) ≤ marksW l := by
  induction l with
  | nil => intro i; simp [marksW]
  | cons x r ih =>
    intro i
    cases i with
    | zero => simp [marksW]
    | succ i => rw [List.take_succ_cons, marksW, marksW]; have := ih i; omega

end Go.Proofs.YtmnkbchieplicaaGreatDoor.Q
