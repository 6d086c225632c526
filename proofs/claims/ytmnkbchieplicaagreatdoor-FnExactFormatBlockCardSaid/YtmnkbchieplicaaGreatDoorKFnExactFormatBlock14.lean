/- slices.ContainsFunc over instructions at a closure with one captured variable; impl.ProgramOk. -/
import Derived.Test.YtmnkbchieplicaaGreatDoorKFnExactFormatBlock13
namespace Go.Proofs.YtmnkbchieplicaaGreatDoor.Q
open Go Go.RowKit Go.Proofs.YtmnkbchieplicaaGreatDoorW.PrintWords Go.Proofs.YtmnkbchieplicaaGreatDoorW.PrintLast Go.Proofs.YtmnkbchieplicaaGreatDoorW.PrintMore
set_option linter.unusedVariables false
set_option linter.unusedSimpArgs false

theorem entersZ {f : FuncId} {fn : Func} {c : Code} (hf : Tryz.prog.funcs[f]? = some fn) (hname : (fn.name == "runtime.NumGoroutine") = false) (hb : fn.body = some c) : ∀ (args : Array Value) (w : World), (callFunc f args).run Tryz.prog w = .ok (.enter f args) w := by
 intro args w
 have h1 : fn.name ≠ "runtime.NumGoroutine" := by simpa using hname
 simp [callFunc, hf, h1, hb, mark]
def idxIns (p : S95 → Option Bool) : Nat → List S95 → Int → Option Int
 | 0, _, _ => none
 | k + 1, xs, i => if i < (xs.length : Int) then (if 0 ≤ i then ((p (rd_T95 xs i)).bind fun b => if b = true then some i else idxIns p k xs (wrap64 (i + 1))) else none) else some (-1)
def conIns (p : S95 → Option Bool) (k : Nat) (xs : List S95) : Option Bool := (idxIns p k xs 0).bind fun i => some (decide (i ≥ 0))
set_option maxHeartbeats 1000000 in
set_option maxRecDepth 100000 in
theorem slices_IndexFunc_Ins.calls (g : Nat) (p : S95 → Option Bool) (eg : ∀ args w, (callFunc g args).run Tryz.prog w = .ok (.enter g args) w)
  (cp : Value) (w0 : World) (hg : ∀ (W : World) (x : S95) (b : Bool), Below w0.heap.size w0 W → p x = some b → Calls Tryz.prog g #[.agg #[.int .i64 x.f0, .int .i64 x.f1, .int .i64 x.f2, .int .i64 x.f3], cp] W fun e W' => e = .returned (.bool b) ∧ Below W.heap.size W W')
  (k : Nat) (A0 : Option Addr) (c0 : Nat) (l0 : List S95) (r : Int) (w : World) (hw0 : Below w0.heap.size w0 w) (hr0 : Kd.C k95 w A0 l0.length l0) (h : idxIns p k l0 0 = some r) :
  Calls Tryz.prog 141 #[.slice A0 l0.length c0, .func (.func g) #[] #[cp]] w fun e w' => e = .returned (.int .i64 r) ∧ Below w.heap.size w w' := by
 have HR0 := Aside0.mk hr0
 have H' := Aside0.mk h
 have HG := Aside0.mk hg; have HW0 := Aside0.mk hw0; clear hr0 h hg hw0
 go_enter Tryz.func141, Tryz.ntmps141
 go_wp2
 go_loopg [8] k (fun kq v8 w' => ∃ (x8_1 : Int), v8 = .int .i64 x8_1 ∧ Aside0 (idxIns p kq l0 x8_1 = some r) ∧ Aside0 (Below w.heap.size w w'))
 case atStart => exact ⟨(0), rfx, H', ⟨by repeat (first | (with_reducible first | exact Below.refl _ _ | apply below_alloc | apply pw_below_drewN | apply below_drew1) | exact Below.refl _ _)⟩⟩
 case round =>
  clear H'; obtain ⟨x8_1, rfl, HA, HB⟩ := hrel
  cases gk with
  | zero => exact absurd HA.out (by simp [idxIns])
  | succ k1 =>
   have H := HA.out; clear HA
   simp only [idxIns] at H
   by_cases c4 : x8_1 < (l0.length : Int)
   ·rw [if_pos c4] at H
    have c4b0 := decide_eq_true c4
    by_cases c5 : 0 ≤ x8_1
    ·rw [if_pos c5] at H
     have c5b0 := decide_eq_true c5
     obtain ⟨ad104, e104, hx0, hx1, hx2, hx3⟩ := at_T95 HR0.out x8_1 c5 c4
     cases e104
     replace hx0 := hxb hx0; replace hx1 := hxb hx1; replace hx2 := hxb hx2; replace hx3 := hxb hx3; have p104 := eq_true c5; have q104 := eq_true c4; clear c4 c5; obtain ⟨b, hb, H⟩ := Option.bind_eq_some_iff.mp H; have HC := Aside0.mk (fun W hW => HG.out W (rd_T95 l0 x8_1) b hW hb); clear hb
     cases b with
     | true =>
      rw [if_pos rfl] at H; obtain rfl := oI H; clear H
      go_wp2_with fail
      refine (HC.out _ (below_step HW0.out bels)).mono ?_
      rintro e w' ⟨rfl, hb2⟩; have HB2 := Aside0.mk (below_step bels hb2); clear hb2
      go_wp2_with fail
      go_ret
      exact ⟨by first | rfl | (simp; done) | (simp [*]; done), by repeat (first | (with_reducible first | exact HB2.out | apply below_alloc | apply pw_below_drewN | apply below_drew1) | exact HB2.out)⟩
     | false =>
      rw [if_neg (by simp)] at H
      have H' := Aside0.mk H
      clear H
      go_wp2_with fail
      refine (HC.out _ (below_step HW0.out bels)).mono ?_
      rintro e w' ⟨rfl, hb2⟩; have HB2 := Aside0.mk (below_step bels hb2); clear hb2
      go_wp2_with fail
      go_roundg k1
      case measure => omega
      case rel => exact ⟨(wrap64 (x8_1 + 1)), rfx, H', ⟨by repeat (first | (with_reducible first | exact HB2.out | apply below_alloc | apply pw_below_drewN | apply below_drew1) | exact HB2.out)⟩⟩
    ·rw [if_neg c5] at H; exact absurd H (by simp)
   ·rw [if_neg c4] at H
    have c4b0 := decide_eq_false c4
    clear c4; obtain rfl := oI H
    go_wp2_with fail
    go_ret
    exact ⟨by first | rfl | (simp; done) | (simp [*]; done), bels⟩

set_option maxHeartbeats 1000000 in
set_option maxRecDepth 100000 in
theorem slices_ContainsFunc_Ins.calls (g : Nat) (p : S95 → Option Bool) (eg : ∀ args w, (callFunc g args).run Tryz.prog w = .ok (.enter g args) w)
  (cp : Value) (w0 : World) (hg : ∀ (W : World) (x : S95) (b : Bool), Below w0.heap.size w0 W → p x = some b → Calls Tryz.prog g #[.agg #[.int .i64 x.f0, .int .i64 x.f1, .int .i64 x.f2, .int .i64 x.f3], cp] W fun e W' => e = .returned (.bool b) ∧ Below W.heap.size W W')
  (k : Nat) (A0 : Option Addr) (c0 : Nat) (l0 : List S95) (r : Bool) (w : World) (hw0 : Below w0.heap.size w0 w) (hr0 : Kd.C k95 w A0 l0.length l0) (h : conIns p k l0 = some r) :
  Calls Tryz.prog 108 #[.slice A0 l0.length c0, .func (.func g) #[] #[cp]] w fun e w' => e = .returned (.bool r) ∧ Below w.heap.size w w' := by
 obtain ⟨i, h1, h2⟩ := Option.bind_eq_some_iff.mp h; have HC := Aside0.mk (fun W hw hW => slices_IndexFunc_Ins.calls g p eg cp w0 hg k A0 c0 l0 i W hw hW h1); have HW0 := Aside0.mk hw0; have HR := Aside0.mk hr0; obtain rfl := Option.some.inj h2; clear h h1 h2 hg hr0 hw0
 go_enter Tryz.func108, Tryz.ntmps108
 go_wp2_with fail
 refine (HC.out _ (by first | exact HW0.out | exact below_drew1 HW0.out | exact pw_below_drewN HW0.out _) (by first | exact HR.out | exact Kd.C_below HR.out (by first | exact (Drawn0.refl _).below | exact Drawn0.below ⟨⟨_, rfl⟩⟩))).mono ?_
 rintro e w' ⟨rfl, hb2⟩; have HB2 := Aside0.mk hb2; clear hb2
 go_wp2_with fail
 go_ret
 exact ⟨by first | rfl | (simp; done) | (simp [*]; done), by repeat (first | (with_reducible first | exact HB2.out | apply below_alloc | apply pw_below_drewN | apply below_drew1) | exact HB2.out)⟩


set_option maxHeartbeats 1000000 in
set_option maxRecDepth 100000 in
theorem progOk1_calls (W : World) (gp : Nat) (A : Option Addr) (n c : Nat) (x : S95) (b : Bool) (hc : W.cell? ⟨gp, 0, none⟩ = some (.slice A n c)) (h : (impl_InsOk.f x.f0 x.f1 x.f2 x.f3 (n : Int)) = some b) :
  Calls Tryz.prog 109 #[.agg #[.int .i64 x.f0, .int .i64 x.f1, .int .i64 x.f2, .int .i64 x.f3], .pointer (some ⟨gp, 0, none⟩)] W fun e W' => e = .returned (.bool (!b)) ∧ Below W.heap.size W W' := by
 have hu := Tryz.underlying95; have hlt := World.block_lt_of_cell? W _ hc; have HB := Aside0.mk (Below.refl W.heap.size W); have HC := Aside0.mk (fun W => impl_InsOk.calls x.f0 x.f1 x.f2 x.f3 (n : Int) b W h); clear h
 go_enter Tryz.func109, Tryz.ntmps109
 go_wp2_with fail
 refine (HC.out _).mono ?_
 rintro e w' ⟨rfl, hb2⟩; have HB2 := Aside0.mk (below_step bels hb2); clear hb2
 go_wp2_with fail
 go_ret
 exact ⟨by first | rfl | (simp; done) | (simp [*]; done), by repeat (first | (with_reducible first | exact HB2.out | apply below_alloc | apply pw_below_drewN | apply below_drew1) | exact HB2.out)⟩

def badIns (n : Int) (x : S95) : Option Bool := (impl_InsOk.f x.f0 x.f1 x.f2 x.f3 n).bind fun b => some (!b)
def impl_ProgramOk.f (k : Nat) (l0 : List S95) : Option Bool := if (l0.length : Int) ≤ 32 then (conIns (badIns l0.length) k l0).bind fun b => some (!b) else some false
theorem idxIns.mono (p : S95 → Option Bool) (xs : List S95) : ∀ k i, LeO (idxIns p k xs i) (idxIns p (k + 1) xs i)
 | 0, i => by intro r h; simp [idxIns] at h
 | k + 1, i => by
  unfold idxIns
  refine LeO.ite (LeO.ite (LeO.bind (LeO.refl _) fun b => LeO.ite (LeO.refl _) (idxIns.mono p xs k _)) (LeO.none _)) (LeO.refl _)
set_option maxHeartbeats 1000000 in
set_option maxRecDepth 100000 in
theorem impl_ProgramOk.calls (k : Nat) (A0 : Option Addr) (c0 : Nat) (l0 : List S95) (r : Bool) (w : World) (hr0 : Kd.C k95 w A0 l0.length l0) (hc0 : l0.length ≤ c0) (h : impl_ProgramOk.f k l0 = some r) :
  Calls Tryz.prog 67 #[.slice A0 l0.length c0] w fun e w' => e = .returned (.bool r) ∧ Below w.heap.size w w' := by
 have eg : ∀ args w, (callFunc 109 args).run Tryz.prog w = .ok (.enter 109 args) w := entersZ Tryz.func109 (by kernel_rfl) rfl
 have HR := Aside0.mk hr0; have HB := Aside0.mk (Below.refl w.heap.size w)
 unfold impl_ProgramOk.f at h
 by_cases hl : (l0.length : Int) ≤ 32
 ·rw [if_pos hl] at h; obtain ⟨b, h1, h2⟩ := Option.bind_eq_some_iff.mp h
  have HC := Aside0.mk (fun (w0 W : World) (gp : Nat) (hw0 : Below w0.heap.size w0 W) (hcell : w0.cell? ⟨gp, 0, none⟩ = some (.slice A0 l0.length c0)) hr => slices_ContainsFunc_Ins.calls 109 (badIns l0.length) eg (.pointer (some ⟨gp, 0, none⟩)) w0 (fun W' x b' hW' hb' => by
   obtain ⟨b2, h3, h4⟩ := Option.bind_eq_some_iff.mp hb'; obtain rfl := Option.some.inj h4
   exact progOk1_calls W' gp A0 l0.length c0 x b2 ((hW'.cell (World.block_lt_of_cell? _ _ hcell)).trans hcell) h3) k A0 c0 l0 b W hw0 hr h1)
  obtain rfl := Option.some.inj h2
  have e1 := decide_eq_true hl
  clear h h1 h2 hr0 hl eg
  go_enter Tryz.func67, Tryz.ntmps67
  go_wp2_with fail
  refine (HC.out (w.alloc (.cells #[.slice A0 l0.length c0] 30)) _ w.heap.size (by repeat (first | (with_reducible first | exact Below.refl _ _ | apply pw_below_drewN | apply below_drew1) | exact Below.refl _ _)) ((blk_cell (blk_new w _) 0).trans rfl) (Kd.C_below HR.out bels)).mono ?_
  rintro e w' ⟨rfl, hb2⟩; have HB2 := Aside0.mk (below_step bels hb2); clear hb2
  go_wp2_with fail
  go_ret
  exact ⟨by first | rfl | (simp; done) | (simp [*]; done), by repeat (first | (with_reducible first | exact HB2.out | apply below_alloc | apply pw_below_drewN | apply below_drew1) | exact HB2.out)⟩
 ·rw [if_neg hl] at h; obtain rfl := Option.some.inj h
  have e1 := decide_eq_false hl
  clear eg h hr0 hl
  go_enter Tryz.func67, Tryz.ntmps67
  go_wp2_with fail
  go_ret
  exact ⟨by first | rfl | (simp; done) | (simp [*]; done), bels⟩

end Go.Proofs.YtmnkbchieplicaaGreatDoor.Q
