/- Which nodes of a graph are reached without passing one: the search by a queue, and the first node that all ways to an end pass. No program in sight. -/
import Derived.Test.YtmnkbchieplicaaGreatDoorKFnExactFormatBlock16
import Derived.RowKit
namespace Go.Proofs.YtmnkbchieplicaaGreatDoor.Q

/-- A way from a to b on which no node is barred. -/
inductive Way (nx : Nat → List Nat) (bar : Nat → Bool) : Nat → Nat → Prop
  | here {a : Nat} : bar a = false → Way nx bar a a
  | on {a b c : Nat} : Way nx bar a b → c ∈ nx b → bar c = false → Way nx bar a c

theorem Way.trans {nx : Nat → List Nat} {bar : Nat → Bool} {a b c : Nat} (h : Way nx bar a b) (k : Way nx bar b c) : Way nx bar a c := by
  induction k with
  | here _ => exact h
  | on _ hm hf ih => exact .on ih hm hf
theorem Way.mono {nx : Nat → List Nat} {bar bar2 : Nat → Bool} {a b : Nat} (hb : ∀ k, bar k = false → bar2 k = false) (h : Way nx bar a b) : Way nx bar2 a b := by
  induction h with
  | here h => exact .here (hb _ h)
  | on _ hm hf ih => exact .on ih hm (hb _ hf)

end Go.Proofs.YtmnkbchieplicaaGreatDoor.Q
