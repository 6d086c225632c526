/- The contract of slices.ContainsFunc over ints, at a function value that only computes. -/
import Derived.Test.YtmnkbchieplicaaGreatDoorKFnExactFormatBlock09

namespace Go.Proofs.YtmnkbchieplicaaGreatDoor.Q
open Go.RowKit Go.Proofs.YtmnkbchieplicaaGreatDoorW.PrintWords Go.Proofs.YtmnkbchieplicaaGreatDoorW.PrintLast Go.Proofs.YtmnkbchieplicaaGreatDoorW.PrintMore
set_option linter.unusedVariables false
set_option linter.unusedSimpArgs false

/-- A call of a function with a Go body enters it. -/
theorem enters {f : FuncId} {fn : Func} {c : Code} (hf : Tryz.prog.funcs[f]? = some fn) (hname : (fn.name == "runtime.NumGoroutine") = false) (hb : fn.body = some c) : ∀ (args : Array Value) (w : World), (callFunc f args).run Tryz.prog w = .ok (.enter f args) w := by
  intro args w
  have h1 : fn.name ≠ "runtime.NumGoroutine" := by simpa using hname
  simp [callFunc, hf, h1, hb, mark]

def idxF (p : Int → Bool) : Nat → List Int → Int → Option Int
  | 0, _, _ => none
  | k + 1, xs, i => if i < (xs.length : Int) then (if 0 ≤ i then (if p (rd xs i) = true then some i else idxF p k xs (wrap64 (i + 1))) else none) else some (-1)

set_option maxHeartbeats 1000000 in
set_option maxRecDepth 100000 in
theorem slices_IndexFunc_int.calls (g : Nat) (p : Int → Bool) (eg : ∀ args w, (callFunc g args).run Tryz.prog w = .ok (.enter g args) w)
    (hg : ∀ (W : World) (x : Int), Calls Tryz.prog g #[.int .i64 x] W fun e W' => e = .returned (.bool (p x)) ∧ Drawn0 W W')
    (k : Nat) (A0 : Option Addr) (c0 : Nat) (l0 : List Int) (r : Int) (w : World) (hr0 : Kd.C (Kd.int .i64) w A0 l0.length l0) (h : idxF p k l0 0 = some r) :
    Calls Tryz.prog 171 #[.slice A0 l0.length c0, .func (.func g) #[] #[]] w fun e w' => e = .returned (.int .i64 r) ∧ Drawn0 w w' := by
  have HR0 := Aside0.mk hr0
  have H' := Aside0.mk h
  have HG := Aside0.mk hg
  clear hr0 h hg
  go_enter Tryz.func171, Tryz.ntmps171
  go_wp2
  go_loopg [8] k (fun kq v8 w' => ∃ (x8_1 : Int), v8 = .int .i64 x8_1 ∧ Aside0 (idxF p kq l0 x8_1 = some r) ∧ Drawn0 w w')
  case atStart => exact ⟨(0), (by first | rfl | (simp; done) | (simp [*]; done)), H', by repeat (first | exact Drawn0.refl _ | apply Drawn0.step)⟩
  case round =>
    clear H'
    obtain ⟨x8_1, rfl, HA, ⟨m1, rfl⟩⟩ := hrel
    cases gk with
    | zero => exact absurd HA.out (by simp [idxF])
    | succ k1 =>
      have H := HA.out
      clear HA
      simp only [idxF] at H
      by_cases c4 : x8_1 < (l0.length : Int)
      · rw [if_pos c4] at H
        have c4b0 : decide (x8_1 < (l0.length : Int)) = true := decide_eq_true c4
        by_cases c5 : 0 ≤ x8_1
        · rw [if_pos c5] at H
          have c5b0 : decide (0 ≤ x8_1) = true := decide_eq_true c5
          obtain ⟨ad104, e104, hx104_0⟩ := Kd.at_int HR0.out x8_1 c5 c4
          cases e104
          replace hx104_0 := ((pw_below_drewN (Below.refl w.heap.size w) m1).cell (World.block_lt_of_cell? w _ hx104_0)).trans hx104_0
          have p104 := eq_true c5
          have q104 := eq_true c4
          clear c4 c5
          by_cases c6 : p (rd l0 x8_1) = true
          · rw [if_pos c6] at H
            have HC := Aside0.mk (fun W => (show Calls Tryz.prog g #[.int .i64 (rd l0 x8_1)] W fun e W' => e = .returned (.bool true) ∧ Drawn0 W W' from c6 ▸ HG.out W (rd l0 x8_1)))
            clear c6
            obtain rfl := Option.some.inj H
            clear H
            go_wp2_with fail
            refine (HC.out _).mono ?_
            rintro e w' ⟨rfl, ⟨nd, rfl⟩⟩
            go_wp2_with fail
            go_ret
            exact ⟨by first | rfl | (simp; done) | (simp [*]; done), by repeat (first | exact Drawn0.refl _ | apply Drawn0.step)⟩
          · rw [if_neg c6] at H
            have HC := Aside0.mk (fun W => (show Calls Tryz.prog g #[.int .i64 (rd l0 x8_1)] W fun e W' => e = .returned (.bool false) ∧ Drawn0 W W' from (Bool.eq_false_iff.mpr c6) ▸ HG.out W (rd l0 x8_1)))
            clear c6
            have H' := Aside0.mk H
            clear H
            go_wp2_with fail
            refine (HC.out _).mono ?_
            rintro e w' ⟨rfl, ⟨nd, rfl⟩⟩
            go_wp2_with fail
            go_roundg k1
            case measure => omega
            case rel => exact ⟨(wrap64 (x8_1 + 1)), (by first | rfl | (simp; done) | (simp [*]; done)), H', by repeat (first | exact Drawn0.refl _ | apply Drawn0.step)⟩
        · rw [if_neg c5] at H; exact absurd H (by simp)
      · rw [if_neg c4] at H
        have c4b0 : decide (x8_1 < (l0.length : Int)) = false := decide_eq_false c4
        clear c4
        obtain rfl := Option.some.inj H
        go_wp2_with fail
        go_ret
        exact ⟨by first | rfl | (simp; done) | (simp [*]; done), by repeat (first | exact Drawn0.refl _ | apply Drawn0.step)⟩

theorem idxF_some (p : Int → Bool) (xs : List Int) (hn : xs.length ≤ 4611686018427387904) : ∃ k r, idxF p k xs 0 = some r ∧ decide (0 ≤ r) = xs.any p := by
  have key : ∀ d k (i : Nat), i ≤ xs.length → xs.length - i = d → d < k → ∃ r, idxF p k xs i = some r ∧ decide (0 ≤ r) = (xs.drop i).any p := by
    intro d
    induction d with
    | zero =>
      intro k i hi hd hk
      obtain ⟨k, rfl⟩ : ∃ m, k = m + 1 := ⟨k - 1, by omega⟩
      refine ⟨-1, by simp only [idxF]; rw [if_neg (by omega)], ?_⟩
      rw [List.drop_of_length_le (by omega)]; rfl
    | succ d ih =>
      intro k i hi hd hk
      obtain ⟨k, rfl⟩ : ∃ m, k = m + 1 := ⟨k - 1, by omega⟩
      have hlt : i < xs.length := by omega
      have hrd : rd xs (i : Int) = xs[i] := by simp [rd, List.getD_eq_getElem?_getD, hlt]
      rw [List.drop_eq_getElem_cons hlt, List.any_cons]
      by_cases hp : p xs[i] = true
      · refine ⟨i, ?_, ?_⟩
        · simp only [idxF]; rw [if_pos (by omega), if_pos (by omega), hrd, if_pos hp]
        · simp [hp]
      · obtain ⟨r, h1, h2⟩ := ih k (i + 1) (by omega) (by omega) (by omega)
        refine ⟨r, ?_, by rw [h2]; simp [hp]⟩
        simp only [idxF]; rw [if_pos (by omega), if_pos (by omega), hrd, if_neg hp]
        have hw : wrap64 ((i : Int) + 1) = ((i + 1 : Nat) : Int) := by unfold wrap64; omega
        rw [hw]; exact h1
  obtain ⟨r, h1, h2⟩ := key xs.length (xs.length + 1) 0 (by omega) (by omega) (by omega)
  exact ⟨_, r, h1, by simpa using h2⟩

set_option maxHeartbeats 1000000 in
set_option maxRecDepth 100000 in
/-- ContainsFunc: is there an element where p holds? -/
theorem slices_ContainsFunc_int.calls (g : Nat) (p : Int → Bool) (eg : ∀ args w, (callFunc g args).run Tryz.prog w = .ok (.enter g args) w)
    (hg : ∀ (W : World) (x : Int), Calls Tryz.prog g #[.int .i64 x] W fun e W' => e = .returned (.bool (p x)) ∧ Drawn0 W W')
    (A0 : Option Addr) (c0 : Nat) (l0 : List Int) (w : World) (hr0 : Kd.C (Kd.int .i64) w A0 l0.length l0) (hn : l0.length ≤ 4611686018427387904) :
    Calls Tryz.prog 144 #[.slice A0 l0.length c0, .func (.func g) #[] #[]] w fun e w' => e = .returned (.bool (l0.any p)) ∧ Drawn0 w w' := by
  obtain ⟨k, r, h1, h2⟩ := idxF_some p l0 hn
  have HC := Aside0.mk (fun W hW => slices_IndexFunc_int.calls g p eg hg k A0 c0 l0 r W hW h1)
  have HR := Aside0.mk hr0
  rw [← h2]
  clear h1 h2 hg hr0
  go_enter Tryz.func144, Tryz.ntmps144
  go_wp2_with fail
  refine (HC.out _ (by first | exact HR.out | exact Kd.C_below HR.out (by first | exact (Drawn0.refl _).below | exact Drawn0.below ⟨⟨_, rfl⟩⟩))).mono ?_
  rintro e w' ⟨rfl, ⟨nd, rfl⟩⟩
  go_wp2_with fail
  go_ret
  exact ⟨by first | rfl | (simp; done) | (simp [*]; done), by repeat (first | exact Drawn0.refl _ | apply Drawn0.step)⟩

end Go.Proofs.YtmnkbchieplicaaGreatDoor.Q
