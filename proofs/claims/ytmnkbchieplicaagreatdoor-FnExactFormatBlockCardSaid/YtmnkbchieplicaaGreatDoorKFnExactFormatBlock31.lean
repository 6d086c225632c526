/- Rows that hold the same are the same: loops that compare. -/
import Derived.Test.YtmnkbchieplicaaGreatDoorKFnExactFormatBlock30
namespace Go.Proofs.YtmnkbchieplicaaGreatDoor.Q
open Go Go.RowKit Go.Proofs.YtmnkbchieplicaaGreatDoorW.PrintWords Go.Proofs.YtmnkbchieplicaaGreatDoorW.PrintLast Go.Proofs.YtmnkbchieplicaaGreatDoorW.PrintMore
set_option linter.unusedVariables false
set_option linter.unusedSimpArgs false

structure smallB (c : List MIns) (ws : List MWrp) (m : List Int) : Prop where
  hc : c.length < 1000000000
  hm : m.length < 1000000000
  hw : ws.length < 1000000000
  hr : ∀ i, i < ws.length → (ws.getD i z59).f1.length < 1000000000 ∧ (ws.getD i z59).f2.length < 1000000000
theorem small_V {b : MBlk} (hv : blkV b) : smallB b.f0 b.f1 b.f2 := by
  refine ⟨by have := hv.1.1; omega, by have := hv.2.2.1.1; omega, by have := hv.2.1; omega, fun i hi => ?_⟩
  have h := (hv.2.2.2.2.2 i hi).1
  have e : b.f1.getD i z59 = wrpM b i := by unfold wrpM; rw [List.getD_eq_getElem?_getD, List.getD_eq_getElem?_getD, List.getElem?_eq_getElem hi]; rfl
  rw [e]
  exact ⟨by have := h.2.2.1.1; omega, by have := h.2.1.1; omega⟩
theorem getD_ext {α : Type} {xs ys : List α} (z : α) (hl : xs.length = ys.length) (h : ∀ i, i < xs.length → xs.getD i z = ys.getD i z) : xs = ys := by
  apply List.ext_getElem hl
  intro i h1 h2
  have := h i h1
  rw [List.getD_eq_getElem?_getD, List.getD_eq_getElem?_getD, List.getElem?_eq_getElem h1, List.getElem?_eq_getElem h2] at this
  exact this
theorem same_loop {α : Type} {xs ys : List α} (z : α) (hl : xs.length = ys.length) {l : Nat → Nat → Option Bool} {K0 : Nat} {e : Bool} {f : Nat → Bool} (hf : ∀ i, i < xs.length → (f i = true ↔ xs.getD i z = ys.getD i z))
    (hs : ∀ k i, K0 ≤ k → i < xs.length → l (k + 1) i = if f i = true then l k (i + 1) else some false) (he : ∀ k, K0 ≤ k → l (k + 1) xs.length = some e) :
    ∃ r, (∀ k, xs.length + K0 + 1 ≤ k → l k 0 = some r) ∧ (r = true ↔ xs = ys ∧ e = true) := by
  have key : ∀ d i k, i + d = xs.length → d + K0 + 1 ≤ k → l k i = some ((List.range' i d).all f && e) := by
    intro d
    induction d with
    | zero =>
      intro i k hi hk
      obtain ⟨k, rfl⟩ : ∃ m, k = m + 1 := ⟨k - 1, by omega⟩
      obtain rfl : i = xs.length := by omega
      rw [he k (by omega)]; simp
    | succ d ih =>
      intro i k hi hk
      obtain ⟨k, rfl⟩ : ∃ m, k = m + 1 := ⟨k - 1, by omega⟩
      rw [hs k i (by omega) (by omega), List.range'_succ, List.all_cons]
      cases f i with
      | false => simp
      | true => rw [if_pos rfl, ih (i + 1) k (by omega) (by omega)]; simp
  refine ⟨_, fun k hk => key xs.length 0 k (by omega) (by omega), ?_⟩
  rw [Bool.and_eq_true, List.all_eq_true]
  constructor
  · rintro ⟨h, he2⟩
    exact ⟨getD_ext z hl fun i hi => (hf i hi).1 (h i (by rw [List.mem_range'_1]; omega)), he2⟩
  · rintro ⟨rfl, he2⟩
    exact ⟨fun i hi => (hf i (by rw [List.mem_range'_1] at hi; omega)).2 rfl, he2⟩
theorem rd128 (xs : List MIns) (i : Nat) : rd_T95 xs (i : Int) = xs.getD i ⟨0, 0, 0, 0⟩ := rfl
theorem rd117 (xs : List MFrm) (i : Nat) : rd_T132 xs (i : Int) = xs.getD i ⟨0, 0, 0⟩ := rfl
theorem rd41 (xs : List MWrp) (i : Nat) : rd_T59 xs (i : Int) = xs.getD i ⟨0, [], []⟩ := rfl
theorem rdI_ (xs : List Int) (i : Nat) : rd xs (i : Int) = xs.getD i 0 := rfl
def neIns (x y : MIns) : Bool := !(x.f0 == y.f0) || (!(x.f1 == y.f1) || (!(x.f2 == y.f2) || (!(x.f3 == y.f3))))
def neFrm (x y : MFrm) : Bool := !(x.f0 == y.f0) || (!(x.f1 == y.f1) || (!(x.f2 == y.f2)))
theorem neIns_iff (x y : MIns) : (!neIns x y) = true ↔ x = y := by
  unfold neIns
  cases x; cases y
  simp
theorem neFrm_iff (x y : MFrm) : (!neFrm x y) = true ↔ x = y := by
  unfold neFrm
  cases x; cases y
  simp
theorem wS {i : Nat} (h : i < 1000000000) : wrap64 ((i : Int) + 1) = ((i + 1 : Nat) : Int) := by unfold wrap64; omega
/-- A test of equality: from a number of rounds on it tells. -/
def Tells (g : Nat → Option Bool) (p : Prop) (K : Nat) : Prop := ∃ r, (∀ k, K ≤ k → g k = some r) ∧ (r = true ↔ p)
theorem Tells.no {g : Nat → Option Bool} {p : Prop} {K : Nat} (h : ∀ k, K ≤ k → g k = some false) (hp : ¬ p) : Tells g p K := ⟨false, h, by simp [hp]⟩
theorem small_w {c : List MIns} {ws : List MWrp} {m : List Int} (h : smallB c ws m) (i : Nat) (hi : i < ws.length) : (ws.getD i ⟨0, [], []⟩).f1.length < 1000000000 ∧ (ws.getD i ⟨0, [], []⟩).f2.length < 1000000000 := by
  have h1 := h.hr i hi
  rw [List.getD_eq_getElem?_getD, List.getElem?_eq_getElem hi] at h1 ⊢
  exact h1

end Go.Proofs.YtmnkbchieplicaaGreatDoor.Q
