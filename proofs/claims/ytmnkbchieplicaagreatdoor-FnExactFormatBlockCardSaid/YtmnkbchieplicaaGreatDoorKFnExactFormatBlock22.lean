/- impl.(Block).ended: no warp has frames. -/
import Derived.Test.YtmnkbchieplicaaGreatDoorKFnExactFormatBlock21
namespace Go.Proofs.YtmnkbchieplicaaGreatDoor.Q
open Go Go.RowKit Go.Proofs.YtmnkbchieplicaaGreatDoorW.PrintWords Go.Proofs.YtmnkbchieplicaaGreatDoorW.PrintLast Go.Proofs.YtmnkbchieplicaaGreatDoorW.PrintMore
set_option linter.unusedVariables false
set_option linter.unusedSimpArgs false

def idxW (p : S59 → Option Bool) : Nat → List S59 → Int → Option Int
 | 0, _, _ => none
 | k + 1, xs, i => if i < (xs.length : Int) then (if 0 ≤ i then ((p (rd_T59 xs i)).bind fun b => if b = true then some i else idxW p k xs (wrap64 (i + 1))) else none) else some (-1)
def conW (p : S59 → Option Bool) (k : Nat) (xs : List S59) : Option Bool := (idxW p k xs 0).bind fun i => some (decide (i ≥ 0))

set_option maxHeartbeats 1000000 in
set_option maxRecDepth 100000 in
theorem slices_IndexFunc_Wrp.calls (g : Nat) (p : S59 → Option Bool) (eg : ∀ args w, (callFunc g args).run Tryz.prog w = .ok (.enter g args) w)
  (w0 : World) (hg : ∀ (W : World) (x : S59) (b : Bool) (A1 : Option Addr) (c1 : Nat) (A2 : Option Addr) (c2 : Nat), Below w0.heap.size w0 W → p x = some b → Calls Tryz.prog g #[.agg #[.int .i64 x.f0, .slice A1 x.f1.length c1, .slice A2 x.f2.length c2]] W fun e W' => e = .returned (.bool b) ∧ Below W.heap.size W W')
  (k : Nat) (A0 : Option Addr) (c0 : Nat) (l0 : List S59) (r : Int) (w : World) (hw0 : Below w0.heap.size w0 w) (hr0 : Kd.C k59 w A0 l0.length l0) (h : idxW p k l0 0 = some r) :
  Calls Tryz.prog 115 #[.slice A0 l0.length c0, .func (.func g) #[] #[]] w fun e w' => e = .returned (.int .i64 r) ∧ Below w.heap.size w w' := by
 have HR0 := Aside0.mk hr0
 have H' := Aside0.mk h
 have HG := Aside0.mk hg; have HW0 := Aside0.mk hw0; clear hr0 h hg hw0
 go_enter Tryz.func115, Tryz.ntmps115
 go_wp2
 go_loopg [8] k (fun kq v8 w' => ∃ (x8_1 : Int), v8 = .int .i64 x8_1 ∧ Aside0 (idxW p kq l0 x8_1 = some r) ∧ Aside0 (Below w.heap.size w w'))
 case atStart => exact ⟨(0), rfx, H', ⟨by repeat (first | (with_reducible first | exact Below.refl _ _ | apply below_alloc | apply pw_below_drewN | apply below_drew1) | exact Below.refl _ _)⟩⟩
 case round =>
  clear H'; obtain ⟨x8_1, rfl, HA, HB⟩ := hrel
  cases gk with
  | zero => exact absurd HA.out (by simp [idxW])
  | succ k1 =>
   have H := HA.out; clear HA
   simp only [idxW] at H
   by_cases c4 : x8_1 < (l0.length : Int)
   ·rw [if_pos c4] at H
    have c4b0 := decide_eq_true c4
    by_cases c5 : 0 ≤ x8_1
    ·rw [if_pos c5] at H
     have c5b0 := decide_eq_true c5
     obtain ⟨ad104, A1, c1, A2, c2, e104, hx0, hx1, hx2, _⟩ := at_T59 HR0.out x8_1 c5 c4
     cases e104
     replace hx0 := hxb hx0; replace hx1 := hxb hx1; replace hx2 := hxb hx2; have p104 := eq_true c5; have q104 := eq_true c4; clear c4 c5; obtain ⟨b, hb, H⟩ := Option.bind_eq_some_iff.mp H; have HC := Aside0.mk (fun W hW => HG.out W (rd_T59 l0 x8_1) b A1 c1 A2 c2 hW hb); clear hb
     cases b with
     | true =>
      rw [if_pos rfl] at H; obtain rfl := oI H; clear H
      go_wp2_with fail
      refine (HC.out _ (below_step HW0.out bels)).mono ?_
      rintro e w' ⟨rfl, hb2⟩; have HB2 := Aside0.mk (below_step bels hb2); clear hb2
      go_wp2_with fail
      go_ret
      exact ⟨by first | rfl | (simp; done) | (simp [*]; done), by repeat (first | (with_reducible first | exact HB2.out | apply below_alloc | apply pw_below_drewN | apply below_drew1) | exact HB2.out)⟩
     | false =>
      rw [if_neg (by simp)] at H
      have H' := Aside0.mk H
      clear H
      go_wp2_with fail
      refine (HC.out _ (below_step HW0.out bels)).mono ?_
      rintro e w' ⟨rfl, hb2⟩; have HB2 := Aside0.mk (below_step bels hb2); clear hb2
      go_wp2_with fail
      go_roundg k1
      case measure => omega
      case rel => exact ⟨(wrap64 (x8_1 + 1)), rfx, H', ⟨by repeat (first | (with_reducible first | exact HB2.out | apply below_alloc | apply pw_below_drewN | apply below_drew1) | exact HB2.out)⟩⟩
    ·rw [if_neg c5] at H; exact absurd H (by simp)
   ·rw [if_neg c4] at H
    have c4b0 := decide_eq_false c4
    clear c4; obtain rfl := oI H
    go_wp2_with fail
    go_ret
    exact ⟨by first | rfl | (simp; done) | (simp [*]; done), bels⟩

set_option maxHeartbeats 1000000 in
set_option maxRecDepth 100000 in
theorem slices_ContainsFunc_Wrp.calls (g : Nat) (p : S59 → Option Bool) (eg : ∀ args w, (callFunc g args).run Tryz.prog w = .ok (.enter g args) w)
  (w0 : World) (hg : ∀ (W : World) (x : S59) (b : Bool) (A1 : Option Addr) (c1 : Nat) (A2 : Option Addr) (c2 : Nat), Below w0.heap.size w0 W → p x = some b → Calls Tryz.prog g #[.agg #[.int .i64 x.f0, .slice A1 x.f1.length c1, .slice A2 x.f2.length c2]] W fun e W' => e = .returned (.bool b) ∧ Below W.heap.size W W')
  (k : Nat) (A0 : Option Addr) (c0 : Nat) (l0 : List S59) (r : Bool) (w : World) (hw0 : Below w0.heap.size w0 w) (hr0 : Kd.C k59 w A0 l0.length l0) (h : conW p k l0 = some r) :
  Calls Tryz.prog 72 #[.slice A0 l0.length c0, .func (.func g) #[] #[]] w fun e w' => e = .returned (.bool r) ∧ Below w.heap.size w w' := by
 obtain ⟨i, h1, h2⟩ := Option.bind_eq_some_iff.mp h; have HC := Aside0.mk (fun W hw hW => slices_IndexFunc_Wrp.calls g p eg w0 hg k A0 c0 l0 i W hw hW h1); have HW0 := Aside0.mk hw0; have HR := Aside0.mk hr0; obtain rfl := Option.some.inj h2; clear h h1 h2 hg hr0 hw0
 go_enter Tryz.func72, Tryz.ntmps72
 go_wp2_with fail
 refine (HC.out _ (by first | exact HW0.out | exact below_drew1 HW0.out | exact pw_below_drewN HW0.out _) (by first | exact HR.out | exact Kd.C_below HR.out (by first | exact (Drawn0.refl _).below | exact Drawn0.below ⟨⟨_, rfl⟩⟩))).mono ?_
 rintro e w' ⟨rfl, hb2⟩; have HB2 := Aside0.mk hb2; clear hb2
 go_wp2_with fail
 go_ret
 exact ⟨by first | rfl | (simp; done) | (simp [*]; done), by repeat (first | (with_reducible first | exact HB2.out | apply below_alloc | apply pw_below_drewN | apply below_drew1) | exact HB2.out)⟩



set_option maxRecDepth 100000 in
theorem ended1_calls (W : World) (x : S59) (A1 : Option Addr) (c1 : Nat) (A2 : Option Addr) (c2 : Nat) : Calls Tryz.prog 73 #[.agg #[.int .i64 x.f0, .slice A1 x.f1.length c1, .slice A2 x.f2.length c2]] W fun e W' => e = .returned (.bool (!x.f1.isEmpty)) ∧ Below W.heap.size W W' := by
 have hu := Tryz.underlying59; have HB := Aside0.mk (Below.refl W.heap.size W); have HE := Aside0.mk (show (!x.f1.isEmpty) = decide (0 < (x.f1.length : Int)) by cases x.f1 <;> simp <;> omega); rw [HE.out]
 go_enter Tryz.func73, Tryz.ntmps73
 go_wp2_with fail
 go_ret
 exact ⟨by first | rfl | (simp; done) | (simp [*]; done), bels⟩
def impl_Block_ended.f (k : Nat) (l0_0 : List S95) (l0_1 : List S59) (l0_2 : List Int) (a0_3 a0_4 : Int) : Option Bool := (conW (fun x => some (!x.f1.isEmpty)) k l0_1).bind fun b => some (!b)
theorem idxW.mono (p : S59 → Option Bool) (xs : List S59) : ∀ k i, LeO (idxW p k xs i) (idxW p (k + 1) xs i)
 | 0, i => by intro r h; simp [idxW] at h
 | k + 1, i => by
  unfold idxW
  refine LeO.ite (LeO.ite (LeO.bind (LeO.refl _) fun b => LeO.ite (LeO.refl _) (idxW.mono p xs k _)) (LeO.none _)) (LeO.refl _)
set_option maxHeartbeats 1000000 in
set_option maxRecDepth 100000 in
theorem impl_Block_ended.calls (k : Nat) (A0_0 : Option Addr) (c0_0 : Nat) (l0_0 : List S95) (A0_1 : Option Addr) (c0_1 : Nat) (l0_1 : List S59) (A0_2 : Option Addr) (c0_2 : Nat) (l0_2 : List Int) (a0_3 : Int) (a0_4 : Int) (r : Bool) (w : World) (hr0_0 : Kd.C k95 w A0_0 l0_0.length l0_0) (hc0_0 : l0_0.length ≤ c0_0) (hr0_1 : Kd.C k59 w A0_1 l0_1.length l0_1) (hc0_1 : l0_1.length ≤ c0_1) (hr0_2 : Kd.C (Kd.int .i64) w A0_2 l0_2.length l0_2) (hc0_2 : l0_2.length ≤ c0_2) (h : impl_Block_ended.f k l0_0 l0_1 l0_2 a0_3 a0_4 = some r) :
  Calls Tryz.prog 36 #[.agg #[.slice A0_0 l0_0.length c0_0, .slice A0_1 l0_1.length c0_1, .slice A0_2 l0_2.length c0_2, .int .i64 a0_3, .int .i64 a0_4]] w fun e w' => e = .returned (.bool r) ∧ Below w.heap.size w w' := by
 have eg : ∀ args w, (callFunc 73 args).run Tryz.prog w = .ok (.enter 73 args) w := entersZ Tryz.func73 (by kernel_rfl) rfl
 have hu := Tryz.underlying33; have HR := Aside0.mk hr0_1; have HB := Aside0.mk (Below.refl w.heap.size w); obtain ⟨b, h1, h2⟩ := Option.bind_eq_some_iff.mp h; obtain rfl := Option.some.inj h2; have HC := Aside0.mk (fun (W : World) hw0 hr => slices_ContainsFunc_Wrp.calls 73 (fun x => some (!x.f1.isEmpty)) eg w (fun W' x b' A1 c1 A2 c2 _ hb' => by obtain rfl := Option.some.inj hb'; exact ended1_calls W' x A1 c1 A2 c2) k A0_1 c0_1 l0_1 b W hw0 hr h1); clear h h1 h2 hr0_0 hr0_1 hr0_2 eg
 go_enter Tryz.func36, Tryz.ntmps36
 go_wp2_with fail
 refine (HC.out _ bels (Kd.C_below HR.out bels)).mono ?_
 rintro e w' ⟨rfl, hb2⟩; have HB2 := Aside0.mk (below_step bels hb2); clear hb2
 go_wp2_with fail
 go_ret
 exact ⟨by first | rfl | (simp; done) | (simp [*]; done), by repeat (first | (with_reducible first | exact HB2.out | apply below_alloc | apply pw_below_drewN | apply below_drew1) | exact HB2.out)⟩

end Go.Proofs.YtmnkbchieplicaaGreatDoor.Q
