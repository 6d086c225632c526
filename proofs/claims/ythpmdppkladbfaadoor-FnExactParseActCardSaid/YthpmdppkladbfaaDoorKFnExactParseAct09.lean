/- impl.SplitFields: strings.Fields of a line of printable bytes. -/
import Derived.Test.YthpmdppkladbfaaDoorKFnExactParseAct08
import Derived.Lib.Fields
import Derived.Lib.AtoiErrMem
namespace Go.Proofs.YthpmdppkladbfaaDoor.Q
open Go Go.RowKit Go.Proofs.YthpmdppkladbfaaDoorW.PrintWords Go.Proofs.YthpmdppkladbfaaDoorW.PrintLast Go.Proofs.YthpmdppkladbfaaDoorW.PrintMore
set_option linter.unusedVariables false
set_option linter.unusedSimpArgs false

theorem entersB {f : FuncId} {fn : Func} {c : Code} (hf : Tryd.prog.funcs[f]? = some fn) (hname : (fn.name == "runtime.NumGoroutine") = false) (hb : fn.body = some c) : ∀ (args : Array Value) (w : World), (callFunc f args).run Tryd.prog w = .ok (.enter f args) w := by
  intro args w
  have h1 : fn.name ≠ "runtime.NumGoroutine" := by simpa using hname
  simp [callFunc, hf, h1, hb, mark]
def outB (b : Int) : Bool := decide (b < 32) || decide (b > 126)
set_option maxRecDepth 100000 in
theorem split1_calls (W : World) (x : Int) : Calls Tryd.prog 36 #[.int .u8 x] W fun e W' => e = .returned (.bool (outB x)) ∧ Drawn0 W W' := by
  by_cases h : x < 32
  · have c1 : decide (x < 32) = true := decide_eq_true h
    have HE := Aside0.mk (show outB x = true by unfold outB; rw [c1]; rfl)
    clear h
    go_enter Tryd.func36, Tryd.ntmps36
    go_wp2_with fail
    go_ret
    exact ⟨by rw [HE.out]; rfl, by repeat (first | exact Drawn0.refl _ | apply Drawn0.step)⟩
  · have c1 : decide (x < 32) = false := decide_eq_false h
    have HE := Aside0.mk (show outB x = decide (126 < x) by unfold outB; rw [c1]; rfl)
    clear h
    go_enter Tryd.func36, Tryd.ntmps36
    go_wp2_with fail
    go_ret
    exact ⟨by rw [HE.out]; rfl, by repeat (first | exact Drawn0.refl _ | apply Drawn0.step)⟩

def idxB (p : Int → Bool) : Nat → List Int → Int → Option Int
  | 0, _, _ => none
  | k + 1, xs, i => if i < (xs.length : Int) then (if 0 ≤ i then (if p (rd xs i) = true then some i else idxB p k xs (wrap64 (i + 1))) else none) else some (-1)
set_option maxHeartbeats 1000000 in
set_option maxRecDepth 100000 in
theorem slices_IndexFunc_byte.calls (g : Nat) (p : Int → Bool) (eg : ∀ args w, (callFunc g args).run Tryd.prog w = .ok (.enter g args) w)
    (hg : ∀ (W : World) (x : Int), Calls Tryd.prog g #[.int .u8 x] W fun e W' => e = .returned (.bool (p x)) ∧ Drawn0 W W')
    (k : Nat) (A0 : Option Addr) (c0 : Nat) (l0 : List Int) (r : Int) (w : World) (hr0 : Kd.C (Kd.int .u8) w A0 l0.length l0) (h : idxB p k l0 0 = some r) :
    Calls Tryd.prog 43 #[.slice A0 l0.length c0, .func (.func g) #[] #[]] w fun e w' => e = .returned (.int .i64 r) ∧ Drawn0 w w' := by
  have HR0 := Aside0.mk hr0
  have H' := Aside0.mk h
  have HG := Aside0.mk hg
  clear hr0 h hg
  go_enter Tryd.func43, Tryd.ntmps43
  go_wp2
  go_loopg [8] k (fun kq v8 w' => ∃ (x8_1 : Int), v8 = .int .i64 x8_1 ∧ Aside0 (idxB p kq l0 x8_1 = some r) ∧ Drawn0 w w')
  case atStart => exact ⟨(0), (by first | rfl | (simp; done) | (simp [*]; done)), H', by repeat (first | exact Drawn0.refl _ | apply Drawn0.step)⟩
  case round =>
    clear H'
    obtain ⟨x8_1, rfl, HA, ⟨m1, rfl⟩⟩ := hrel
    cases gk with
    | zero => exact absurd HA.out (by simp [idxB])
    | succ k1 =>
      have H := HA.out
      clear HA
      simp only [idxB] at H
      by_cases c4 : x8_1 < (l0.length : Int)
      · rw [if_pos c4] at H
        have c4b0 : decide (x8_1 < (l0.length : Int)) = true := decide_eq_true c4
        by_cases c5 : 0 ≤ x8_1
        · rw [if_pos c5] at H
          have c5b0 : decide (0 ≤ x8_1) = true := decide_eq_true c5
          obtain ⟨ad104, e104, hx104_0⟩ := Kd.at_int HR0.out x8_1 c5 c4
          cases e104
          replace hx104_0 := ((pw_below_drewN (Below.refl w.heap.size w) m1).cell (World.block_lt_of_cell? w _ hx104_0)).trans hx104_0
          have p104 := eq_true c5
          have q104 := eq_true c4
          clear c4 c5
          by_cases c6 : p (rd l0 x8_1) = true
          · rw [if_pos c6] at H
            have HC := Aside0.mk (fun W => (show Calls Tryd.prog g #[.int .u8 (rd l0 x8_1)] W fun e W' => e = .returned (.bool true) ∧ Drawn0 W W' from c6 ▸ HG.out W (rd l0 x8_1)))
            clear c6
            obtain rfl := Option.some.inj H
            clear H
            go_wp2_with fail
            refine (HC.out _).mono ?_
            rintro e w' ⟨rfl, ⟨nd, rfl⟩⟩
            go_wp2_with fail
            go_ret
            exact ⟨by first | rfl | (simp; done) | (simp [*]; done), by repeat (first | exact Drawn0.refl _ | apply Drawn0.step)⟩
          · rw [if_neg c6] at H
            have HC := Aside0.mk (fun W => (show Calls Tryd.prog g #[.int .u8 (rd l0 x8_1)] W fun e W' => e = .returned (.bool false) ∧ Drawn0 W W' from (Bool.eq_false_iff.mpr c6) ▸ HG.out W (rd l0 x8_1)))
            clear c6
            have H' := Aside0.mk H
            clear H
            go_wp2_with fail
            refine (HC.out _).mono ?_
            rintro e w' ⟨rfl, ⟨nd, rfl⟩⟩
            go_wp2_with fail
            go_roundg k1
            case measure => omega
            case rel => exact ⟨(wrap64 (x8_1 + 1)), (by first | rfl | (simp; done) | (simp [*]; done)), H', by repeat (first | exact Drawn0.refl _ | apply Drawn0.step)⟩
        · rw [if_neg c5] at H; exact absurd H (by simp)
      · rw [if_neg c4] at H
        have c4b0 : decide (x8_1 < (l0.length : Int)) = false := decide_eq_false c4
        clear c4
        obtain rfl := Option.some.inj H
        go_wp2_with fail
        go_ret
        exact ⟨by first | rfl | (simp; done) | (simp [*]; done), by repeat (first | exact Drawn0.refl _ | apply Drawn0.step)⟩

theorem idxB_some (p : Int → Bool) (xs : List Int) (hn : xs.length ≤ 4611686018427387904) : ∃ k r, idxB p k xs 0 = some r ∧ decide (0 ≤ r) = xs.any p := by
  have key : ∀ d k (i : Nat), i ≤ xs.length → xs.length - i = d → d < k → ∃ r, idxB p k xs i = some r ∧ decide (0 ≤ r) = (xs.drop i).any p := by
    intro d
    induction d with
    | zero =>
      intro k i hi hd hk
      obtain ⟨k, rfl⟩ : ∃ m, k = m + 1 := ⟨k - 1, by omega⟩
      refine ⟨-1, by simp only [idxB]; rw [if_neg (by omega)], ?_⟩
      rw [List.drop_of_length_le (by omega)]; rfl
    | succ d ih =>
      intro k i hi hd hk
      obtain ⟨k, rfl⟩ : ∃ m, k = m + 1 := ⟨k - 1, by omega⟩
      have hlt : i < xs.length := by omega
      have hrd : rd xs (i : Int) = xs[i] := by simp [rd, List.getD_eq_getElem?_getD, hlt]
      rw [List.drop_eq_getElem_cons hlt, List.any_cons]
      by_cases hp : p xs[i] = true
      · refine ⟨i, ?_, ?_⟩
        · simp only [idxB]; rw [if_pos (by omega), if_pos (by omega), hrd, if_pos hp]
        · simp [hp]
      · obtain ⟨r, h1, h2⟩ := ih k (i + 1) (by omega) (by omega) (by omega)
        refine ⟨r, ?_, by rw [h2]; simp [hp]⟩
        simp only [idxB]; rw [if_pos (by omega), if_pos (by omega), hrd, if_neg hp]
        have hw : wrap64 ((i : Int) + 1) = ((i + 1 : Nat) : Int) := by unfold wrap64; omega
        rw [hw]; exact h1
  obtain ⟨r, h1, h2⟩ := key xs.length (xs.length + 1) 0 (by omega) (by omega) (by omega)
  exact ⟨_, r, h1, by simpa using h2⟩

set_option maxHeartbeats 1000000 in
set_option maxRecDepth 100000 in
/-- ContainsFunc: is there an element where p holds? -/
theorem slices_ContainsFunc_byte.calls (g : Nat) (p : Int → Bool) (eg : ∀ args w, (callFunc g args).run Tryd.prog w = .ok (.enter g args) w)
    (hg : ∀ (W : World) (x : Int), Calls Tryd.prog g #[.int .u8 x] W fun e W' => e = .returned (.bool (p x)) ∧ Drawn0 W W')
    (A0 : Option Addr) (n c0 : Nat) (l0 : List Int) (w : World) (hr0 : Kd.C (Kd.int .u8) w A0 l0.length l0) (hnn : n = l0.length) (hn : l0.length ≤ 4611686018427387904) :
    Calls Tryd.prog 35 #[.slice A0 n c0, .func (.func g) #[] #[]] w fun e w' => e = .returned (.bool (l0.any p)) ∧ Drawn0 w w' := by
  subst hnn
  obtain ⟨k, r, h1, h2⟩ := idxB_some p l0 hn
  have HC := Aside0.mk (fun W hW => slices_IndexFunc_byte.calls g p eg hg k A0 c0 l0 r W hW h1)
  have HR := Aside0.mk hr0
  rw [← h2]
  clear h1 h2 hg hr0
  go_enter Tryd.func35, Tryd.ntmps35
  go_wp2_with fail
  refine (HC.out _ (by first | exact HR.out | exact Kd.C_below HR.out (by first | exact (Drawn0.refl _).below | exact Drawn0.below ⟨⟨_, rfl⟩⟩))).mono ?_
  rintro e w' ⟨rfl, ⟨nd, rfl⟩⟩
  go_wp2_with fail
  go_ret
  exact ⟨by first | rfl | (simp; done) | (simp [*]; done), by repeat (first | exact Drawn0.refl _ | apply Drawn0.step)⟩

def fieldsB (s : ByteArray) : List ByteArray := (Lib.fields s.data.toList).map fun l => ⟨l.toArray⟩
theorem fieldsB_length (s : ByteArray) : (fieldsB s).length = (Lib.fields s.data.toList).length := by simp [fieldsB]
def impl_SplitFields.f (s : ByteArray) : Option (List ByteArray × Bool) :=
  if (s.size : Int) > 600 then some ([], false) else if (bytesOf s).any outB = true then some ([], false) else if ((fieldsB s).length : Int) > 24 then some ([], false) else some (fieldsB s, true)
theorem fields_R (s : ByteArray) (w : World) (B : Nat) (hB : B ≤ w.heap.size) (h : (fieldsB s).length ≤ 24) :
    Kd.R Kd.string 9 (w.alloc (.cells ((Lib.fields s.data.toList).map fun l => Value.string ⟨l.toArray⟩).toArray 9)) B (fun _ => True) (.slice (some ⟨w.heap.size, 0, none⟩) (fieldsB s).length (fieldsB s).length) (fieldsB s) := by
  refine Kd.R_of_own ⟨by simp [encs], .inr ⟨w.heap.size, (fieldsB s).length, ((Lib.fields s.data.toList).map fun l => Value.string ⟨l.toArray⟩).toArray, rfl, hB, by show (w.heap.push _)[w.heap.size]? = _; simp, Nat.le_refl _, by simp only [maxLen]; omega, by simp [fieldsB], ?_⟩⟩ (fun _ _ => trivial)
  rw [List.take_of_length_le (by simp [fieldsB])]
  simp [fieldsB, encs]
set_option maxHeartbeats 2000000 in
set_option maxRecDepth 100000 in
theorem impl_SplitFields.calls (a0 : ByteArray) (r1 : List ByteArray) (r2 : Bool) (w : World) (h : impl_SplitFields.f a0 = some (r1, r2)) (htab : PowIs w := by (apply PowIs.on; (refine Aside0.out ?_; assumption); repeat (first | (refine Aside0.out ?_; assumption) | apply below_alloc | apply pw_below_drewN | apply below_drew1 | (refine below_set ?_ (Aside0.out (by assumption)))))) :
    Calls Tryd.prog 25 #[.string a0] w fun e w' => ∃ v0_ : Value, e = .returned (.tuple #[v0_, .bool r2]) ∧ Kd.R Kd.string 9 w' w.heap.size (fun _ => True) v0_ r1 ∧ Below w.heap.size w w' := by
  have HT := Aside0.mk htab
  clear htab
  have nil_R : ∀ (W : World) (B : Nat), Kd.R Kd.string 9 W B (fun _ => True) (.slice none 0 0) [] := fun W B => Kd.R_of_own ⟨by simp [encs], .inl ⟨rfl, rfl⟩⟩ (fun _ _ => trivial)
  have HNIL := Aside0.mk nil_R
  clear nil_R
  unfold impl_SplitFields.f at h
  by_cases c1 : (a0.size : Int) > 600
  · rw [if_pos c1] at h
    simp only [Option.some.injEq, Prod.mk.injEq] at h
    obtain ⟨rfl, rfl⟩ := h
    have c1b : decide (600 < (a0.size : Int)) = true := decide_eq_true c1
    have c1c : decide (600 < a0.size) = true := decide_eq_true (by omega)
    clear c1
    go_enter Tryd.func25, Tryd.ntmps25
    go_wp2_with fail
    go_ret2
    exact ⟨_, rfl, HNIL.out _ _, by repeat (first | (with_reducible first | exact Below.refl _ _ | apply below_alloc | apply pw_below_drewN | apply below_drew1) | exact Below.refl _ _)⟩
  · rw [if_neg c1] at h
    have hsz : a0.size ≤ 600 := by omega
    have c1b : decide (600 < (a0.size : Int)) = false := decide_eq_false c1
    have c1c : decide (600 < a0.size) = false := decide_eq_false (by omega)
    have kb := fun W => print_bytes (P := Tryd.prog) 9 44 5 Tryd.underlying9 Tryd.underlying44 Tryd.underlying5 a0 W
    have eg : ∀ args w, (callFunc 36 args).run Tryd.prog w = .ok (.enter 36 args) w := entersB Tryd.func36 (by kernel_rfl) rfl
    have HC := Aside0.mk (fun (W : World) (A0 : Option Addr) (n c0 : Nat) (hr : Kd.C (Kd.int .u8) W A0 (bytesOf a0).length (bytesOf a0)) (hn : n = (bytesOf a0).length) => slices_ContainsFunc_byte.calls 36 outB eg split1_calls A0 n c0 (bytesOf a0) W hr hn (by rw [bytesOf_length]; omega))
    have HB := Aside0.mk (Below.refl w.heap.size w)
    have HBR := Aside0.mk (fun W => Kd.C_of_reads (d := (0 : Int)) (h1 := fun _ => rfl) (bytes_reads W 5 a0 (by omega)))
    have HBL := Aside0.mk (bytesOf_length a0)
    by_cases c2 : (bytesOf a0).any outB = true
    · rw [if_pos c2] at h
      simp only [Option.some.injEq, Prod.mk.injEq] at h
      obtain ⟨rfl, rfl⟩ := h
      rw [c2] at HC
      clear c1 c2 hsz eg
      go_enter Tryd.func25, Tryd.ntmps25
      go_wp2_with fail
      refine (HC.out _ _ _ _ (by rw [HBL.out]; exact Kd.C_below (HBR.out _) (by first | exact Below.refl _ _ | exact pw_below_drewN (Below.refl _ _) _ | exact pw_below_drewN (Below.refl _ _) 1)) HBL.out.symm).mono ?_
      rintro e w' ⟨rfl, ⟨nd, rfl⟩⟩
      have HB2 := Aside0.mk (fun W (hb : Below w.heap.size w W) => bytes_below hb hb.size 5 a0)
      go_wp2_with fail
      go_ret2
      exact ⟨_, rfl, HNIL.out _ _, by repeat (first | (with_reducible first | exact Below.refl _ _ | apply below_alloc | apply pw_below_drewN | apply below_drew1) | (refine HB2.out _ ?_) | exact Below.refl _ _)⟩
    · rw [if_neg c2] at h
      have HFL := Aside0.mk (fun (W : World) (hh : PowIs W) => Any.strings_Fields_laid Tryd.laysFields a0 W (by omega) (by
        intro j b hb
        have h1 : ¬ outB (b.toNat : Int) = true := fun hc => c2 (List.any_eq_true.2 ⟨_, List.mem_map.2 ⟨b, List.mem_of_getElem? hb, rfl⟩, hc⟩)
        unfold outB at h1
        simp at h1
        omega) hh.sp)
      have HFR := Aside0.mk (fun (W : World) (B : Nat) hB h24 => fields_R a0 W B hB h24)
      have HLL := Aside0.mk (fieldsB_length a0)
      rw [Bool.eq_false_iff.mpr c2] at HC
      rw [← fieldsB_length] at HFL
      by_cases c3 : ((fieldsB a0).length : Int) > 24
      · rw [if_pos c3] at h
        simp only [Option.some.injEq, Prod.mk.injEq] at h
        obtain ⟨rfl, rfl⟩ := h
        have c3b : decide (24 < ((fieldsB a0).length : Int)) = true := decide_eq_true c3
        have c3c : decide (24 < (fieldsB a0).length) = true := decide_eq_true (by omega)
        clear c1 c2 c3 hsz eg
        go_enter Tryd.func25, Tryd.ntmps25
        go_wp2_with fail
        refine (HC.out _ _ _ _ (by rw [HBL.out]; exact Kd.C_below (HBR.out _) (by first | exact Below.refl _ _ | exact pw_below_drewN (Below.refl _ _) _ | exact pw_below_drewN (Below.refl _ _) 1)) HBL.out.symm).mono ?_
        rintro e w' ⟨rfl, ⟨nd, rfl⟩⟩
        have HB2 := Aside0.mk (fun W (hb : Below w.heap.size w W) => bytes_below hb hb.size 5 a0)
        go_wp2_with fail
        refine (HFL.out _ (PowIs.on HT.out (by repeat (first | (with_reducible first | exact Below.refl _ _ | apply below_alloc | apply pw_below_drewN | apply below_drew1) | (refine HB2.out _ ?_) | exact Below.refl _ _)))).mono ?_
        rintro e w' ⟨rfl, rfl⟩
        go_wp2_with fail
        go_ret2
        exact ⟨_, rfl, HNIL.out _ _, by repeat (first | (with_reducible first | exact Below.refl _ _ | apply below_alloc | apply pw_below_drewN | apply below_drew1) | (refine HB2.out _ ?_) | exact Below.refl _ _)⟩
      · rw [if_neg c3] at h
        simp only [Option.some.injEq, Prod.mk.injEq] at h
        obtain ⟨rfl, rfl⟩ := h
        have c3b : decide (24 < ((fieldsB a0).length : Int)) = false := decide_eq_false c3
        have c3c : decide (24 < (fieldsB a0).length) = false := decide_eq_false (by omega)
        have H24 := Aside0.mk (show (fieldsB a0).length ≤ 24 by omega)
        clear c1 c2 c3 hsz eg
        go_enter Tryd.func25, Tryd.ntmps25
        go_wp2_with fail
        refine (HC.out _ _ _ _ (by rw [HBL.out]; exact Kd.C_below (HBR.out _) (by first | exact Below.refl _ _ | exact pw_below_drewN (Below.refl _ _) _ | exact pw_below_drewN (Below.refl _ _) 1)) HBL.out.symm).mono ?_
        rintro e w' ⟨rfl, ⟨nd, rfl⟩⟩
        have HB2 := Aside0.mk (fun W (hb : Below w.heap.size w W) => bytes_below hb hb.size 5 a0)
        go_wp2_with fail
        have HBW := Aside0.mk (show Below w.heap.size w _ from (by repeat (first | (with_reducible first | exact Below.refl _ _ | apply below_alloc | apply pw_below_drewN | apply below_drew1) | (refine HB2.out _ ?_) | exact Below.refl _ _) : Below w.heap.size w ((Lib.bytesWorld (w) 5 a0).drewN nd)))
        refine (HFL.out _ (PowIs.on HT.out (by repeat (first | (with_reducible first | exact Below.refl _ _ | apply below_alloc | apply pw_below_drewN | apply below_drew1) | (refine HB2.out _ ?_) | exact Below.refl _ _)))).mono ?_
        rintro e w' ⟨rfl, rfl⟩
        go_wp2_with fail
        go_ret2
        exact ⟨_, rfl, HFR.out _ _ (by first | exact HBW.out.size | omega) H24.out, by repeat (first | (with_reducible first | exact Below.refl _ _ | apply below_alloc | apply pw_below_drewN | apply below_drew1) | (refine HB2.out _ ?_) | exact Below.refl _ _)⟩

end Go.Proofs.YthpmdppkladbfaaDoor.Q
