/- Rows of few texts: marked, they hold their marks; a row is equal to itself. -/
import Derived.Test.YtmnkbchieplicaaGreatDoorKFnExactFormatBlock44
namespace Go.Proofs.YtmnkbchieplicaaGreatDoor.Q
open Go Go.RowKit Go.Proofs.YtmnkbchieplicaaGreatDoorW.PrintWords Go.Proofs.YtmnkbchieplicaaGreatDoorW.PrintLast Go.Proofs.YtmnkbchieplicaaGreatDoorW.PrintMore
set_option linter.unusedVariables false
set_option linter.unusedSimpArgs false

def markT (m : Nat) : ByteArray := (⟨#[109]⟩ : ByteArray) ++ (strOfNums [((48 + m : Nat) : Int)] ++ ⟨#[]⟩)
theorem markT_f {m : Nat} (h0 : 1 ≤ m) (h1 : m ≤ 9) {k : Nat} (hk : 2 ≤ k) : laws_markText.f k (m : Int) = some (markT m) := by
  obtain ⟨k, rfl⟩ : ∃ j, k = j + 2 := ⟨k - 2, by omega⟩
  have e1 : (m : Int).tmod 10 = m := by rw [Int.tmod_eq_emod_of_nonneg (by omega)]; omega
  have e2 : (m : Int).tdiv 10 = 0 := by rw [Int.tdiv_eq_ediv_of_nonneg (by omega)]; omega
  have e3 : wrap64 (48 + (m : Int)) % 256 = ((48 + m : Nat) : Int) := by unfold wrap64; omega
  have e4 : wrap64 0 = 0 := by unfold wrap64; omega
  have z : (strOfNums [((48 + m : Nat) : Int)]).size = 1 := by rw [str_one m (by omega)]; rfl
  have z2 : (strOfNums [((48 + m : Nat) : Int)] ++ (⟨#[]⟩ : ByteArray)).size = 1 := by rw [ByteArray.size_append, z]; rfl
  have z0 : (⟨#[]⟩ : ByteArray).size = 0 := rfl
  unfold laws_markText.f
  rw [if_neg (by omega), laws_markText.l0.eq_2, if_pos (by omega), e1, e3, Option.bind_some, if_pos (by rw [z, z0]; omega), e2, e4, laws_markText.l0.eq_2, if_neg (by omega), if_pos (by rw [z2]; omega)]
  rfl
theorem rdS (xs : List ByteArray) (i : Nat) : rdOf ByteArray.empty xs (i : Int) = xs.getD i ByteArray.empty := rfl
theorem eqS_ev (s : List ByteArray) (h : s.length ≤ 1000) : Ev (fun k => laws_eqStringS.f k s s) true := by
  have key : ∀ d (i : Nat), i + d = s.length → Ev (fun k => laws_eqStringS.l0 k s s (i : Int)) true := by
    intro d
    induction d with
    | zero => intro i hi; exact Ev.step (f := fun _ => some true) (fun k => by rw [laws_eqStringS.l0.eq_2, if_neg (by omega)]) (Ev.now _)
    | succ d ih =>
      intro i hi
      exact Ev.step (fun k => by rw [laws_eqStringS.l0.eq_2, if_pos (by omega), if_pos (by omega), if_pos (by omega), if_pos rfl, wS (by omega)]) (ih (i + 1) (by omega))
  exact Ev.congr (fun k => by unfold laws_eqStringS.f; rw [if_pos rfl]; rfl) (key s.length 0 (by omega))
theorem markS_ev (s : List ByteArray) (h : s.length ≤ 6) : ∃ z : List ByteArray, Ev (fun k => laws_markStringS.f k s 1) ((s.length : Int) + 1, z) ∧ Ev (fun k => laws_heldStringS.f k z 1) ((s.length : Int) + 1) := by
  have key : ∀ d (i : Nat) (x : List ByteArray), i + d = s.length → x.length = s.length → (∀ j, j < i → x.getD j ByteArray.empty = markT (j + 1)) →
      ∃ z : List ByteArray, z.length = s.length ∧ (∀ j, j < s.length → z.getD j ByteArray.empty = markT (j + 1)) ∧ Ev (fun k => laws_markStringS.l0 k x ((i + 1 : Nat) : Int) (i : Int)) ((s.length : Int) + 1, z) := by
    intro d
    induction d with
    | zero =>
      intro i x hi hx hj
      obtain rfl : i = s.length := by omega
      exact ⟨x, hx, hj, Ev.step (f := fun _ => some ((s.length : Int) + 1, x)) (fun k => by rw [laws_markStringS.l0.eq_2, if_neg (by omega)]; rfl) (Ev.now _)⟩
    | succ d ih =>
      intro i x hi hx hj
      obtain ⟨z, z1, z2, z3⟩ := ih (i + 1) (x.set i (markT (i + 1))) (by omega) (by rw [List.length_set]; exact hx) (fun j hji => by
        rw [List.getD_eq_getElem?_getD, List.getElem?_set]
        by_cases c : i = j
        · subst c; rw [if_pos rfl, if_pos (by omega)]; rfl
        · rw [if_neg c, ← List.getD_eq_getElem?_getD]; exact hj j (by omega))
      refine ⟨z, z1, z2, ?_⟩
      refine Ev.step (fun k => by rw [laws_markStringS.l0.eq_2, if_pos (by omega)]) ?_
      refine Ev.bind (a := markT (i + 1)) ⟨2, fun k hk => markT_f (by omega) (by omega) hk⟩ ?_
      refine Ev.congr (fun k => by rw [if_pos (by omega), Int.toNat_natCast, wS (by omega), wS (by omega)]) z3
  obtain ⟨z, z1, z2, z3⟩ := key s.length 0 s (by omega) rfl (fun j hj => by omega)
  refine ⟨z, z3, ?_⟩
  have held : ∀ d (i : Nat), i + d = s.length → Ev (fun k => laws_heldStringS.l0 k z ((i + 1 : Nat) : Int) (i : Int)) ((s.length : Int) + 1) := by
    intro d
    induction d with
    | zero => intro i hi; exact Ev.step (f := fun _ => some ((s.length : Int) + 1)) (fun k => by rw [laws_heldStringS.l0.eq_2, if_neg (by omega)]; congr 1; omega) (Ev.now _)
    | succ d ih =>
      intro i hi
      refine Ev.step (fun k => by rw [laws_heldStringS.l0.eq_2, if_pos (by omega), if_pos (by omega)]) ?_
      refine Ev.bind (a := markT (i + 1)) ⟨2, fun k hk => markT_f (by omega) (by omega) hk⟩ ?_
      exact Ev.congr (fun k => by rw [rdS, z2 i (by omega), if_pos rfl, wS (by omega), wS (by omega)]) (ih (i + 1) (by omega))
  exact held s.length 0 (by omega)

end Go.Proofs.YtmnkbchieplicaaGreatDoor.Q
