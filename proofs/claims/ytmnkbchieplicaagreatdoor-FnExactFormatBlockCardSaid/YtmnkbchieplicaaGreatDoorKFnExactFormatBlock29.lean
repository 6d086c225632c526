/- When a block is valid: the program's and the reference's tests alike, and the plain machine's. -/
import Derived.Test.YtmnkbchieplicaaGreatDoorKFnExactFormatBlock28
namespace Go.Proofs.YtmnkbchieplicaaGreatDoor.Q
open Go Go.RowKit Go.Proofs.YtmnkbchieplicaaGreatDoorW.PrintWords Go.Proofs.YtmnkbchieplicaaGreatDoorW.PrintLast Go.Proofs.YtmnkbchieplicaaGreatDoorW.PrintMore
set_option linter.unusedVariables false
set_option linter.unusedSimpArgs false

/-! ### the tests as Bools -/
def insB (s : Int) (i : MIns) : Bool := insOkB i.f0 i.f1 i.f2 i.f3 s
def progB (p : List MIns) : Bool := decide (p.length ≤ 32) && p.all (insB p.length)
def frmB (n : Int) (f : MFrm) : Bool := inR 0 n f.f0 && inR 0 n f.f1 && inR 0 255 f.f2 && !decide (f.f2 = 0)
def edgeB (n : Int) (fs : List MFrm) : Bool := fs.isEmpty || (decide (fs.length ≤ 24) && !endsF n (topF fs) && decide ((fs.getD 0 ⟨0, 0, 0⟩).f1 = n) && decide ((fs.getD 0 ⟨0, 0, 0⟩).f2 = 255))
def frmsB (n : Int) (fs : List MFrm) : Bool := fs.all (frmB n) && edgeB n fs
def wordsB (l : List Int) : Bool := l.all (inR 0 65535)
def wrpB (p : List MIns) (w : MWrp) : Bool := inR 0 2 w.f0 && decide (w.f2.length = 32) && wordsB w.f2 && frmsB p.length w.f1
def numsB (l : List MWrp) : Bool := (List.range l.length).all fun k => decide ((l.getD k ⟨0, [], []⟩).f0 = k)
def blkB (b : MBlk) : Bool := progB b.f0 && inR 1 3 b.f1.length && decide (b.f2.length = 32) && wordsB b.f2 && inR 0 (2 ^ b.f1.length - 2) b.f3 && inR 0 100000 b.f4 && b.f1.all (wrpB b.f0) && numsB b.f1

theorem insB_iff {s : Nat} (hs : s ≤ 32) (i : MIns) : insB s i = true ↔ insV s i := by
  obtain ⟨op, a, b, c⟩ := i
  unfold insB insOkB insV
  dsimp only
  by_cases hop : inR 0 16 op = true
  · have hb := (inR_iff _ _ _).mp hop
    have hcases : op = 0 ∨ op = 1 ∨ op = 2 ∨ op = 3 ∨ op = 4 ∨ op = 5 ∨ op = 6 ∨ op = 7 ∨ op = 8 ∨ op = 9 ∨ op = 10 ∨ op = 11 ∨ op = 12 ∨ op = 13 ∨ op = 14 ∨ op = 15 ∨ op = 16 := by omega
    have hs2 : inR 0 32 (s : Int) = true := by rw [inR_iff]; omega
    rw [hop, hs2]
    rcases hcases with rfl | rfl | rfl | rfl | rfl | rfl | rfl | rfl | rfl | rfl | rfl | rfl | rfl | rfl | rfl | rfl | rfl
    all_goals
      simp [form3, fldB, inR, regV, isW]
      try omega
  · have hop2 : inR 0 16 op = false := by simpa using hop
    rw [hop2]
    rw [inR_iff] at hop
    simp
    intro h1 h2
    omega
theorem progB_iff (p : List MIns) : progB p = true ↔ progV p := by
  unfold progB progV
  rw [Bool.and_eq_true, decide_eq_true_eq, List.all_eq_true]
  constructor
  · rintro ⟨h1, h2⟩
    exact ⟨h1, fun i hi => (insB_iff h1 i).1 (h2 i hi)⟩
  · rintro ⟨h1, h2⟩
    exact ⟨h1, fun i hi => (insB_iff h1 i).2 (h2 i hi)⟩
theorem frmB_iff (n : Nat) (f : MFrm) : frmB n f = true ↔ frmV n f := by
  unfold frmB frmV
  simp only [Bool.and_eq_true, inR_iff, Bool.not_eq_true', decide_eq_false_iff_not]
  omega
theorem head_getD {fs : List MFrm} (h : fs ≠ []) : fs.head? = some (fs.getD 0 ⟨0, 0, 0⟩) := by
  cases fs with
  | nil => exact absurd rfl h
  | cons a l => rfl
theorem frmsB_iff (n : Nat) (fs : List MFrm) : frmsB n fs = true ↔ frmsV n fs := by
  unfold frmsB frmsV frmsV0 edgeB
  rw [Bool.and_eq_true, List.all_eq_true]
  by_cases he : fs = []
  · subst he; simp
  · have h0 : fs.isEmpty = false := by simpa using he
    rw [h0]
    simp only [Bool.false_or, Bool.and_eq_true, decide_eq_true_eq, Bool.not_eq_true']
    constructor
    · rintro ⟨h1, ⟨⟨h2, h3⟩, h4⟩, h5⟩
      exact ⟨⟨h2, fun f hf => (frmB_iff n f).1 (h1 f hf), fun f hf => by rw [head_getD he] at hf; obtain rfl := Option.some.inj hf; exact ⟨h4, h5⟩⟩, fun _ => h3⟩
    · rintro ⟨⟨h2, h1, h4⟩, h3⟩
      have h5 := h4 _ (head_getD he)
      exact ⟨fun f hf => (frmB_iff n f).2 (h1 f hf), ⟨⟨h2, h3 he⟩, h5.1⟩, h5.2⟩
theorem wordsB_iff (l : List Int) : wordsB l = true ↔ ∀ x ∈ l, isW x := by
  unfold wordsB isW
  rw [List.all_eq_true]
  simp only [inR_iff]
theorem wrpB_iff (p : List MIns) (w : MWrp) : wrpB p w = true ↔ wrpV p w := by
  unfold wrpB wrpV regsV
  rw [Bool.and_eq_true, Bool.and_eq_true, Bool.and_eq_true, inR_iff, decide_eq_true_eq, wordsB_iff, frmsB_iff]
  constructor
  · rintro ⟨⟨⟨a, b⟩, c⟩, d⟩; exact ⟨a, ⟨b, c⟩, d⟩
  · rintro ⟨a, ⟨b, c⟩, d⟩; exact ⟨⟨⟨a, b⟩, c⟩, d⟩
theorem blkB_iff (b : MBlk) : blkB b = true ↔ blkV b := by
  unfold blkB blkV numsB
  simp only [Bool.and_eq_true, inR_iff, decide_eq_true_eq, wordsB_iff, progB_iff, List.all_eq_true, wrpB_iff, List.mem_range]
  have hp : ∀ n : Nat, 1 ≤ n → n ≤ 3 → ((2 : Int) ^ n = ((2 ^ n : Nat) : Int)) ∧ 2 ≤ 2 ^ n := fun n h1 h2 => by
    have h3 : n = 1 ∨ n = 2 ∨ n = 3 := by omega
    rcases h3 with rfl | rfl | rfl <;> decide
  constructor
  · rintro ⟨⟨⟨⟨⟨⟨⟨h1, h2⟩, h3⟩, h4⟩, h5⟩, h6⟩, h7⟩, h8⟩
    obtain ⟨e1, e2⟩ := hp b.f1.length (by omega) (by omega)
    refine ⟨h1, by omega, ⟨h3, h4⟩, ⟨h5.1, ?_⟩, h6, fun k hk => ⟨h7 _ ?_, h8 k hk⟩⟩
    · rw [e1] at h5
      have := h5.2
      omega
    · unfold wrpM
      rw [List.getD_eq_getElem?_getD, List.getElem?_eq_getElem hk]
      exact List.getElem_mem hk
  · rintro ⟨h1, h2, ⟨h3, h4⟩, h5, h6, h7⟩
    obtain ⟨e1, e2⟩ := hp b.f1.length (by omega) (by omega)
    refine ⟨⟨⟨⟨⟨⟨⟨h1, by omega⟩, h3⟩, h4⟩, ⟨h5.1, ?_⟩⟩, h6⟩, fun w hw => ?_⟩, fun k hk => (h7 k hk).2⟩
    · rw [e1]
      have := h5.2
      omega
    · obtain ⟨k, hk, rfl⟩ := List.mem_iff_getElem.1 hw
      have := (h7 k hk).1
      unfold wrpM at this
      rwa [List.getD_eq_getElem?_getD, List.getElem?_eq_getElem hk] at this

end Go.Proofs.YtmnkbchieplicaaGreatDoor.Q
