/- The block as a plain machine: instructions, warps, frames, joins, steps. No program in sight. -/
import Derived.Test.YtmnkbchieplicaaGreatDoorKFnExactFormatBlock17
namespace Go.Proofs.YtmnkbchieplicaaGreatDoor.Q
set_option linter.unusedVariables false
set_option linter.unusedSimpArgs false

abbrev MIns := S95
abbrev MFrm := S132
abbrev MWrp := S59
structure MBlk where
  f0 : List MIns
  f1 : List MWrp
  f2 : List Int
  f3 : Int
  f4 : Int
def rg (l : List Int) (i : Nat) : Int := l.getD i 0
def hasL (m : Int) (i : Nat) : Bool := m.toNat.testBit i
def insM (p : List MIns) (pc : Int) : MIns := p.getD pc.toNat ⟨0, 0, 0, 0⟩
def topF (fs : List MFrm) : MFrm := fs.getLastD ⟨0, 0, 0⟩
def zeroN (rs : List Int) (m : Int) (reg : Nat) : Nat → Nat
  | 0 => 0
  | k + 1 => let z := zeroN rs m reg k; if hasL m k && rg rs (k * 4 + reg) == 0 then z + 2 ^ k else z
def zeroM (rs : List Int) (m : Int) (reg : Nat) : Int := (zeroN rs m reg 8 : Nat)
def endsF (n : Int) (f : MFrm) : Bool := decide (f.f0 = f.f1) || decide (f.f0 = n)
def splitsM (p : List MIns) (w : MWrp) : Bool :=
  let f := topF w.f1; let i := insM p f.f0; let z := zeroM w.f2 f.f2 i.f1.toNat
  decide (i.f0 = 10) && !decide (i.f2 = f.f0 + 1) && !decide (z = 0) && !decide (z = f.f2)
/-! ### what is valid -/
def isW (n : Int) : Prop := 0 ≤ n ∧ n ≤ 65535
def regV (n : Int) : Prop := 0 ≤ n ∧ n ≤ 3
/-- An instruction of a program of a size. -/
def insV (s : Nat) (i : MIns) : Prop :=
  (0 ≤ i.f0 ∧ i.f0 ≤ 16) ∧
  (i.f0 = 0 ∨ i.f0 = 12 ∨ i.f0 = 16 → i.f1 = 0 ∧ i.f2 = 0 ∧ i.f3 = 0) ∧
  (i.f0 = 1 → regV i.f1 ∧ isW i.f2 ∧ i.f3 = 0) ∧
  (i.f0 = 2 ∨ i.f0 = 13 ∨ i.f0 = 14 ∨ i.f0 = 15 → regV i.f1 ∧ regV i.f2 ∧ i.f3 = 0) ∧
  (i.f0 = 3 ∨ i.f0 = 4 ∨ i.f0 = 5 ∨ i.f0 = 6 ∨ i.f0 = 7 ∨ i.f0 = 9 → regV i.f1 ∧ regV i.f2 ∧ regV i.f3) ∧
  (i.f0 = 8 → regV i.f1 ∧ i.f2 = 0 ∧ i.f3 = 0) ∧
  (i.f0 = 10 → regV i.f1 ∧ (0 ≤ i.f2 ∧ i.f2 ≤ s) ∧ i.f3 = 0) ∧
  (i.f0 = 11 → i.f1 = 0 ∧ (0 ≤ i.f2 ∧ i.f2 ≤ s) ∧ i.f3 = 0)
def progV (p : List MIns) : Prop := p.length ≤ 32 ∧ ∀ i ∈ p, insV p.length i
def frmV (n : Nat) (f : MFrm) : Prop := (0 ≤ f.f0 ∧ f.f0 ≤ n) ∧ (0 ≤ f.f1 ∧ f.f1 ≤ n) ∧ (1 ≤ f.f2 ∧ f.f2 ≤ 255)
/-- Frames of a program of n instructions, the last of which may have come to its end. -/
def frmsV0 (n : Nat) (fs : List MFrm) : Prop := fs.length ≤ 24 ∧ (∀ f ∈ fs, frmV n f) ∧ ∀ f, fs.head? = some f → f.f1 = n ∧ f.f2 = 255
def frmsV (n : Nat) (fs : List MFrm) : Prop := frmsV0 n fs ∧ (fs ≠ [] → endsF n (topF fs) = false)
def regsV (rs : List Int) : Prop := rs.length = 32 ∧ ∀ x ∈ rs, isW x
def wrpV (p : List MIns) (w : MWrp) : Prop := (0 ≤ w.f0 ∧ w.f0 ≤ 2) ∧ regsV w.f2 ∧ frmsV p.length w.f1

theorem insM_mem {p : List MIns} {pc : Int} (h0 : 0 ≤ pc) (h1 : pc < p.length) : insM p pc ∈ p := by
  unfold insM
  rw [List.getD_eq_getElem?_getD, List.getElem?_eq_getElem (by omega)]
  exact List.getElem_mem _
theorem topF_mem {fs : List MFrm} (h : fs ≠ []) : topF fs ∈ fs := by
  unfold topF
  rw [List.getLastD_eq_getLast?, List.getLast?_eq_some_getLast h]
  exact List.getLast_mem h
theorem top_pc {n : Nat} {fs : List MFrm} (h : frmsV n fs) (hne : fs ≠ []) : 0 ≤ (topF fs).f0 ∧ (topF fs).f0 < n := by
  have h1 := h.1.2.1 _ (topF_mem hne)
  have h2 := h.2 hne
  unfold endsF at h2
  simp at h2
  have := h1.1
  omega
/-! drops -/
/-! the graph -/
end Go.Proofs.YtmnkbchieplicaaGreatDoor.Q
