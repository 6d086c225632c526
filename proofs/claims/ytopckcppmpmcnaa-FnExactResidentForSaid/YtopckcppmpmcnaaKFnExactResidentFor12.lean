/- The contract of slices.ContainsFunc over instructions, at a function value with a contract, and that of impl.ListOk. -/
import Derived.Test.YtopckcppmpmcnaaKFnExactResidentFor11
namespace Go.Proofs.Ytopckcppmpmcnaa.Q
open Go.RowKit Go.Proofs.YtopckcppmpmcnaaW.PrintWords Go.Proofs.YtopckcppmpmcnaaW.PrintLast Go.Proofs.YtopckcppmpmcnaaW.PrintMore
set_option linter.unusedVariables false
set_option linter.unusedSimpArgs false

def idxIns (p : S45 → Option Bool) : Nat → List S45 → Int → Option Int
  | 0, _, _ => none
  | k + 1, xs, i => if i < (xs.length : Int) then (if 0 ≤ i then ((p (rd_T45 xs i)).bind fun b => if b = true then some i else idxIns p k xs (wrap64 (i + 1))) else none) else some (-1)
def conIns (p : S45 → Option Bool) (k : Nat) (xs : List S45) : Option Bool := (idxIns p k xs 0).bind fun i => some (decide (i ≥ 0))
set_option maxHeartbeats 1000000 in
set_option maxRecDepth 100000 in
theorem slices_IndexFunc_Ins.calls (g : Nat) (p : S45 → Option Bool) (eg : ∀ args w, (callFunc g args).run Try.prog w = .ok (.enter g args) w)
    (hg : ∀ (W : World) (x : S45) (b : Bool), p x = some b → Calls Try.prog g #[.agg #[.int .i64 x.f0, .int .i64 x.f1, .int .i64 x.f2, .int .i64 x.f3]] W fun e W' => e = .returned (.bool b) ∧ Below W.heap.size W W')
    (k : Nat) (A0 : Option Addr) (c0 : Nat) (l0 : List S45) (r : Int) (w : World) (hr0 : Kd.C k45 w A0 l0.length l0) (h : idxIns p k l0 0 = some r) :
    Calls Try.prog 103 #[.slice A0 l0.length c0, .func (.func g) #[] #[]] w fun e w' => e = .returned (.int .i64 r) ∧ Below w.heap.size w w' := by
  have HR0 := Aside0.mk hr0
  have H' := Aside0.mk h
  have HG := Aside0.mk hg
  clear hr0 h hg
  go_enter Try.func103, Try.ntmps103
  go_wp2
  go_loopg [8] k (fun kq v8 w' => ∃ (x8_1 : Int), v8 = .int .i64 x8_1 ∧ Aside0 (idxIns p kq l0 x8_1 = some r) ∧ Aside0 (Below w.heap.size w w'))
  case atStart => exact ⟨(0), (by first | rfl | (simp; done) | (simp [*]; done)), H', ⟨by repeat (first | (with_reducible first | exact Below.refl _ _ | apply below_alloc | apply pw_below_drewN | apply below_drew1) | exact Below.refl _ _)⟩⟩
  case round =>
    clear H'
    obtain ⟨x8_1, rfl, HA, HB⟩ := hrel
    cases gk with
    | zero => exact absurd HA.out (by simp [idxIns])
    | succ k1 =>
      have H := HA.out
      clear HA
      simp only [idxIns] at H
      by_cases c4 : x8_1 < (l0.length : Int)
      · rw [if_pos c4] at H
        have c4b0 : decide (x8_1 < (l0.length : Int)) = true := decide_eq_true c4
        by_cases c5 : 0 ≤ x8_1
        · rw [if_pos c5] at H
          have c5b0 : decide (0 ≤ x8_1) = true := decide_eq_true c5
          obtain ⟨ad104, e104, hx0, hx1, hx2, hx3⟩ := at_T45 HR0.out x8_1 c5 c4
          cases e104
          replace hx0 := (HB.out.cell (World.block_lt_of_cell? w _ hx0)).trans hx0
          replace hx1 := (HB.out.cell (World.block_lt_of_cell? w _ hx1)).trans hx1
          replace hx2 := (HB.out.cell (World.block_lt_of_cell? w _ hx2)).trans hx2
          replace hx3 := (HB.out.cell (World.block_lt_of_cell? w _ hx3)).trans hx3
          have p104 := eq_true c5
          have q104 := eq_true c4
          clear c4 c5
          obtain ⟨b, hb, H⟩ := Option.bind_eq_some_iff.mp H
          have HC := Aside0.mk (fun W => HG.out W (rd_T45 l0 x8_1) b hb)
          clear hb
          cases b with
          | true =>
            rw [if_pos rfl] at H
            obtain rfl := Option.some.inj H
            clear H
            go_wp2_with fail
            refine (HC.out _).mono ?_
            rintro e w' ⟨rfl, hb2⟩
            have HB2 := Aside0.mk (below_step (by repeat (first | (with_reducible first | exact HB.out | apply below_alloc | apply pw_below_drewN | apply below_drew1) | exact HB.out)) hb2)
            clear hb2
            go_wp2_with fail
            go_ret
            exact ⟨by first | rfl | (simp; done) | (simp [*]; done), by repeat (first | (with_reducible first | exact HB2.out | apply below_alloc | apply pw_below_drewN | apply below_drew1) | exact HB2.out)⟩
          | false =>
            rw [if_neg (by simp)] at H
            have H' := Aside0.mk H
            clear H
            go_wp2_with fail
            refine (HC.out _).mono ?_
            rintro e w' ⟨rfl, hb2⟩
            have HB2 := Aside0.mk (below_step (by repeat (first | (with_reducible first | exact HB.out | apply below_alloc | apply pw_below_drewN | apply below_drew1) | exact HB.out)) hb2)
            clear hb2
            go_wp2_with fail
            go_roundg k1
            case measure => omega
            case rel => exact ⟨(wrap64 (x8_1 + 1)), (by first | rfl | (simp; done) | (simp [*]; done)), H', ⟨by repeat (first | (with_reducible first | exact HB2.out | apply below_alloc | apply pw_below_drewN | apply below_drew1) | exact HB2.out)⟩⟩
        · rw [if_neg c5] at H; exact absurd H (by simp)
      · rw [if_neg c4] at H
        have c4b0 : decide (x8_1 < (l0.length : Int)) = false := decide_eq_false c4
        clear c4
        obtain rfl := Option.some.inj H
        go_wp2_with fail
        go_ret
        exact ⟨by first | rfl | (simp; done) | (simp [*]; done), by repeat (first | (with_reducible first | exact HB.out | apply below_alloc | apply pw_below_drewN | apply below_drew1) | exact HB.out)⟩

set_option maxHeartbeats 1000000 in
set_option maxRecDepth 100000 in
theorem slices_ContainsFunc_Ins.calls (g : Nat) (p : S45 → Option Bool) (eg : ∀ args w, (callFunc g args).run Try.prog w = .ok (.enter g args) w)
    (hg : ∀ (W : World) (x : S45) (b : Bool), p x = some b → Calls Try.prog g #[.agg #[.int .i64 x.f0, .int .i64 x.f1, .int .i64 x.f2, .int .i64 x.f3]] W fun e W' => e = .returned (.bool b) ∧ Below W.heap.size W W')
    (k : Nat) (A0 : Option Addr) (c0 : Nat) (l0 : List S45) (r : Bool) (w : World) (hr0 : Kd.C k45 w A0 l0.length l0) (h : conIns p k l0 = some r) :
    Calls Try.prog 66 #[.slice A0 l0.length c0, .func (.func g) #[] #[]] w fun e w' => e = .returned (.bool r) ∧ Below w.heap.size w w' := by
  obtain ⟨i, h1, h2⟩ := Option.bind_eq_some_iff.mp h
  have HC := Aside0.mk (fun W hW => slices_IndexFunc_Ins.calls g p eg hg k A0 c0 l0 i W hW h1)
  have HR := Aside0.mk hr0
  obtain rfl := Option.some.inj h2
  clear h h1 h2 hg hr0
  go_enter Try.func66, Try.ntmps66
  go_wp2_with fail
  refine (HC.out _ (by first | exact HR.out | exact Kd.C_below HR.out (by first | exact (Drawn0.refl _).below | exact Drawn0.below ⟨⟨_, rfl⟩⟩))).mono ?_
  rintro e w' ⟨rfl, hb2⟩
  have HB2 := Aside0.mk hb2
  clear hb2
  go_wp2_with fail
  go_ret
  exact ⟨by first | rfl | (simp; done) | (simp [*]; done), by repeat (first | (with_reducible first | exact HB2.out | apply below_alloc | apply pw_below_drewN | apply below_drew1) | exact HB2.out)⟩

def impl_ListOk.f (k : Nat) (l0 : List S45) : Option Bool := if (l0.length : Int) ≤ 32 then (conIns (fun x => impl_ListOk_1.f x.f0 x.f1 x.f2 x.f3) k l0).bind fun b => some (!b) else some false
theorem idxIns.mono (p : S45 → Option Bool) (xs : List S45) : ∀ k i, LeO (idxIns p k xs i) (idxIns p (k + 1) xs i)
  | 0, i => by intro r h; simp [idxIns] at h
  | k + 1, i => by
    unfold idxIns
    refine LeO.ite (LeO.ite (LeO.bind (LeO.refl _) fun b => LeO.ite (LeO.refl _) (idxIns.mono p xs k _)) (LeO.none _)) (LeO.refl _)
theorem impl_ListOk.mono : ∀ a0 k, LeO (impl_ListOk.f k a0) (impl_ListOk.f (k + 1) a0) := by
  intro a0 k
  unfold impl_ListOk.f conIns
  exact LeO.ite (LeO.bind (LeO.bind (idxIns.mono _ _ k _) fun _ => LeO.refl _) fun _ => LeO.refl _) (LeO.refl _)
set_option maxHeartbeats 1000000 in
set_option maxRecDepth 100000 in
theorem impl_ListOk.calls (k : Nat) (A0 : Option Addr) (c0 : Nat) (l0 : List S45) (r : Bool) (w : World) (hr0 : Kd.C k45 w A0 l0.length l0) (hc0 : l0.length ≤ c0) (h : impl_ListOk.f k l0 = some r) :
    Calls Try.prog 22 #[.slice A0 l0.length c0] w fun e w' => e = .returned (.bool r) ∧ Below w.heap.size w w' := by
  have eg : ∀ args w, (callFunc 67 args).run Try.prog w = .ok (.enter 67 args) w := enters Try.func67 (by kernel_rfl) rfl
  have HR := Aside0.mk hr0
  unfold impl_ListOk.f at h
  by_cases hl : (l0.length : Int) ≤ 32
  · rw [if_pos hl] at h
    obtain ⟨b, h1, h2⟩ := Option.bind_eq_some_iff.mp h
    have HC := Aside0.mk (fun W hr => slices_ContainsFunc_Ins.calls 67 (fun x => impl_ListOk_1.f x.f0 x.f1 x.f2 x.f3) eg (fun W x b hb => impl_ListOk_1.calls x.f0 x.f1 x.f2 x.f3 b W hb) k A0 c0 l0 b W hr h1)
    obtain rfl := Option.some.inj h2
    have e1 : decide ((l0.length : Int) ≤ 32) = true := decide_eq_true hl
    clear h h1 h2 hr0 hl
    go_enter Try.func22, Try.ntmps22
    go_wp2_with fail
    refine (HC.out _ (by first | exact HR.out | exact Kd.C_below HR.out (by first | exact (Drawn0.refl _).below | exact Drawn0.below ⟨⟨_, rfl⟩⟩))).mono ?_
    rintro e w' ⟨rfl, hb2⟩
    have HB2 := Aside0.mk hb2
    clear hb2
    go_wp2_with fail
    go_ret
    exact ⟨by first | rfl | (simp; done) | (simp [*]; done), by repeat (first | (with_reducible first | exact HB2.out | apply below_alloc | apply pw_below_drewN | apply below_drew1) | exact HB2.out)⟩
  · rw [if_neg hl] at h
    obtain rfl := Option.some.inj h
    have e1 : decide ((l0.length : Int) ≤ 32) = false := decide_eq_false hl
    clear eg h hr0 hl
    go_enter Try.func22, Try.ntmps22
    go_wp2_with fail
    go_ret
    exact ⟨by first | rfl | (simp; done) | (simp [*]; done), by repeat (first | (with_reducible first | exact Below.refl _ _ | apply below_alloc | apply pw_below_drewN | apply below_drew1) | exact Below.refl _ _)⟩

end Go.Proofs.Ytopckcppmpmcnaa.Q
