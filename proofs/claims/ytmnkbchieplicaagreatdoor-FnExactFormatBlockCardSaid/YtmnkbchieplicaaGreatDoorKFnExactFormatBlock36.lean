/- How an argument that is a slice is read as a list: whatever its elements are, if one element's cells can be read. -/
import Derived.Test.YtmnkbchieplicaaGreatDoorKFnExactFormatBlock35
import Derived.DataElems
import Derived.ChangeReads
import Derived.WideShapes
import Derived.Lib.SmallJoins
namespace Go.Proofs.YtmnkbchieplicaaGreatDoor.Q
open Go.RowKit Go.Proofs.YtmnkbchieplicaaGreatDoorW.PrintWords Go.Proofs.YtmnkbchieplicaaGreatDoorW.PrintLast Go.Proofs.YtmnkbchieplicaaGreatDoorW.PrintMore
set_option linter.unusedVariables false
set_option linter.unusedSimpArgs false

/-- What one element's cells tell. -/
def Opens {α H : Type} (d : Kd α) (P : Program) (enc : TypeId × Value → H) (W : World) (sp : Nat → Bool) (e : TypeId) (wf : α → Prop) : Prop :=
  ∀ (n : Nat) (cs : List Value) (y : DataW H × List MemPlace), DataW.trod enc P W 0 sp true n e cs = some y → ∃ x, d.K W x cs ∧ wf x
theorem open_rows {α H : Type} {d : Kd α} {P : Program} {enc : TypeId × Value → H} {W : World} {sp : Nat → Bool} {t e : TypeId} {wf : α → Prop} (hu : P.underlying t = some (.slice e)) (hsz : P.cellsOf e = d.sz)
    (hop : Opens d P enc W sp e wf) {n : Nat} {a : Option Addr} {len cap : Nat} {y : DataW H × List MemPlace} (h : DataW.trod enc P W 0 sp true n t [.slice a len cap] = some y) :
    ∃ xs : List α, xs.length = len ∧ len ≤ cap ∧ len ≤ maxLen ∧ Kd.C d W a len xs ∧ ∀ x ∈ xs, wf x := by
  cases n with
  | zero => simp [DataW.trod] at h
  | succ n =>
    unfold DataW.trod at h
    rw [hu] at h
    split at h <;> try (simp_all; done)
    case h_7 =>
      rename_i e2
      simp at e2
      obtain ⟨rfl, rfl, rfl⟩ := e2
      exact ⟨[], rfl, Nat.le_refl _, Nat.zero_le _, ⟨rfl, by omega, fun h => by omega⟩, by simp⟩
    case h_8 =>
      rename_i e' a' len' cap' e1 e2
      obtain rfl : e = e' := by simpa using e1
      simp only [List.cons.injEq, Value.slice.injEq, and_true] at e2
      obtain ⟨rfl, rfl, rfl⟩ := e2
      dsimp only at h
      split at h
      case isFalse => simp at h
      case isTrue hc =>
      obtain ⟨hb, hlc, hcm⟩ := hc
      rw [Option.bind_eq_some_iff] at h
      obtain ⟨elems, he, _⟩ := h
      have hlen : elems.length = len := by simpa using mapM_some_length he
      have hel : ∀ j, j < len → ∃ cs x, cs.length = d.sz ∧ d.K W x cs ∧ wf x ∧ ∀ i u, cs[i]? = some u → W.cell? (a'.add (j * d.sz + i)) = some u := by
        intro j hj
        have h1 := mapM_some_get he j j (by simp [hj])
        rw [List.getElem?_eq_getElem (show j < elems.length by omega), Option.bind_eq_some_iff] at h1
        obtain ⟨cs, h2, h3⟩ := h1
        obtain ⟨_, hl, hcell⟩ := World.cells?_some h2
        obtain ⟨x, hx, hw⟩ := hop n cs _ h3
        refine ⟨cs, x, by rw [hl, hsz], hx, hw, fun i u hi => ?_⟩
        have hlt : i < cs.length := by
          rcases Nat.lt_or_ge i cs.length with h | h
          · exact h
          · rw [List.getElem?_eq_none h] at hi; cases hi
        have := hcell i (by omega)
        rw [Addr.add_add, hsz] at this
        rw [this, hi]
      by_cases h0 : len = 0
      · subst h0
        exact ⟨[], rfl, hlc, Nat.zero_le _, ⟨rfl, by omega, fun h => by omega⟩, by simp⟩
      obtain ⟨f, hf⟩ : ∃ f : Nat → α, ∀ j, j < len → ∃ cs, cs.length = d.sz ∧ d.K W (f j) cs ∧ wf (f j) ∧ ∀ i u, cs[i]? = some u → W.cell? (a'.add (j * d.sz + i)) = some u := by
        classical
        obtain ⟨_, x0, _⟩ := hel 0 (by omega)
        refine ⟨fun j => if h : j < len then Classical.choose (Classical.choose_spec (hel j h)) else x0, fun j hj => ?_⟩
        simp only [dif_pos hj]
        exact ⟨_, Classical.choose_spec (Classical.choose_spec (hel j hj))⟩
      refine ⟨(List.range len).map f, by simp, hlc, Nat.le_trans hlc hcm, ⟨by simp, ?_, fun _ => ⟨a', rfl, ?_⟩⟩, ?_⟩
      · have := Nat.le_trans hlc hcm; simp only [maxLen] at this; omega
      · intro j p hj
        have hj2 : j < len := by
          rcases Nat.lt_or_ge j len with h | h
          · exact h
          · rw [List.getElem?_eq_none (by simpa using h)] at hj; cases hj
        obtain ⟨cs, g1, g2, g3, g4⟩ := hf j hj2
        simp only [List.getElem?_map, List.getElem?_range hj2, Option.map_some, Option.some.injEq] at hj
        subst hj
        exact ⟨cs, g1, g2, g4⟩
      · intro x hx
        obtain ⟨j, hj, rfl⟩ := List.mem_map.1 hx
        obtain ⟨_, _, _, g3, _⟩ := hf j (by simpa using hj)
        exact g3

end Go.Proofs.YtmnkbchieplicaaGreatDoor.Q
