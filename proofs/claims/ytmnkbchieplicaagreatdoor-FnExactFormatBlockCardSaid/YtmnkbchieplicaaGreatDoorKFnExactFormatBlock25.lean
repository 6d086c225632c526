/- The cells of a made row. -/
import Derived.Test.YtmnkbchieplicaaGreatDoorKFnExactFormatBlock24
namespace Go.Proofs.YtmnkbchieplicaaGreatDoor.Q
open Go Go.RowKit Go.Proofs.YtmnkbchieplicaaGreatDoorW.PrintWords Go.Proofs.YtmnkbchieplicaaGreatDoorW.PrintLast Go.Proofs.YtmnkbchieplicaaGreatDoorW.PrintMore
set_option linter.unusedVariables false
set_option linter.unusedSimpArgs false

theorem own_cells {W : World} {base : Nat} {e : TypeId} {size g n cap : Nat} {xs : List Value} (h : W.ownsRow base e size (.slice (some ⟨g, 0, none⟩) n cap) n xs) : ∃ cur : Array Value, W.heap[g]? = some (.cells cur e (0, 0)) ∧ cur.size = cap * size ∧ (n ≤ cap ∧ cap ≤ maxLen) ∧ base ≤ g ∧ ∀ j, j < n * size → cur[j]? = xs[j]? := by
  rcases h.2 with ⟨h1, _⟩ | ⟨g', cap', cur, he, hb, hh, hn, hm, hs, ht⟩
  · cases h1
  · injection he with ha _ hc
    injection ha with ha
    injection ha with ha
    subst ha; subst hc
    refine ⟨cur, hh, hs, ⟨hn, hm⟩, hb, fun j hj => ?_⟩
    rw [← ht, List.getElem?_take, if_pos hj, Array.getElem?_toList]
theorem take3 {xs : List Value} {k : Nat} {a b c : Value} (h : (xs.drop (k * 3)).take 3 = [a, b, c]) : xs[k * 3]? = some a ∧ xs[k * 3 + 1]? = some b ∧ xs[k * 3 + 2]? = some c := by
  have g : ∀ j, j < 3 → xs[k * 3 + j]? = ([a, b, c] : List Value)[j]? := fun j hj => by
    rw [← h, List.getElem?_take, if_pos hj, List.getElem?_drop]
  exact ⟨g 0 (by omega), g 1 (by omega), g 2 (by omega)⟩
end Go.Proofs.YtmnkbchieplicaaGreatDoor.Q
