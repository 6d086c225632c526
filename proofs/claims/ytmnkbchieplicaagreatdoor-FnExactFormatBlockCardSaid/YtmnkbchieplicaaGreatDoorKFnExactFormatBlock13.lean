/- Contracts of functions of the program and of the laws, written by program out of the translation; conditions: as each theorem says. -/
import Derived.Test.YtmnkbchieplicaaGreatDoorKFnExactFormatBlock12
namespace Go.Proofs.YtmnkbchieplicaaGreatDoor.Q
open Go.RowKit Go.Proofs.YtmnkbchieplicaaGreatDoorW.PrintWords Go.Proofs.YtmnkbchieplicaaGreatDoorW.PrintLast Go.Proofs.YtmnkbchieplicaaGreatDoorW.PrintMore
attribute [local go_sem] max2_int min2_int max_two min_two max_three min_three max_four min_four   -- for this text's walks alone
set_option linter.unusedVariables false
set_option linter.unusedSimpArgs false

/-! ### impl_isMemory: function 69 -/
def impl_isMemory.f (l0 : List Int) : Option (Bool) := if (l0.length : Int) = 32 then ((impl_AreWords.f l0).bind fun t11 => (some t11)) else (some false)
set_option maxHeartbeats 8000000 in
set_option maxRecDepth 100000 in
theorem impl_isMemory.calls (A0 : Option Addr) (c0 : Nat) (l0 : List Int) (r : Bool) (w : World) (hr0 : Kd.C (Kd.int .i64) w A0 l0.length l0) (hc0 : l0.length ≤ c0) (h : impl_isMemory.f l0 = some r) :
  Calls Tryz.prog 69 #[.slice A0 l0.length c0] w fun e w' => e = .returned (.bool r) ∧ Drawn0 w w' := by
 have HR0 := Aside0.mk hr0; have HC0 := Aside0.mk hc0; clear hr0 hc0
 have H : (if (l0.length : Int) = 32 then ((impl_AreWords.f l0).bind fun t11 => (some t11)) else (some false)) = some r := h
 clear h
 by_cases c2 : (l0.length : Int) = 32
 ·rw [if_pos c2] at H
  have c2b0 : ((l0.length : Int) == 32) = true := beq_iff_eq.mpr c2
  have c2b1 : ((l0.length : Int) != 32) = false := bne_eq_false_iff_eq.mpr c2
  clear c2; obtain ⟨t11, A3, H⟩ := bnd H; (try dsimp only at H); obtain rfl := oI H
  go_enter Tryz.func69, Tryz.ntmps69
  go_wp2_with (first | (go_at_call 111; refine (impl_AreWords.calls _ _ l0 t11 _ (ca HR0.out) HC0.out A3.out).mono ?_; rintro e w' ⟨rfl, ⟨nd, rfl⟩⟩))
  go_ret
  exact ⟨by first | rfl | (simp; done) | (simp [*]; done), by repeat (first | exact Drawn0.refl _ | apply Drawn0.step)⟩
 ·rw [if_neg c2] at H
  have c2b0 : ((l0.length : Int) == 32) = false := beq_eq_false_iff_ne.mpr c2
  have c2b1 : ((l0.length : Int) != 32) = true := bne_iff_ne.mpr c2
  obtain rfl := oI H
  go_enter Tryz.func69, Tryz.ntmps69
  go_wp2
  go_ret
  exact ⟨by first | rfl | (simp; done) | (simp [*]; done), by repeat (first | exact Drawn0.refl _ | apply Drawn0.step)⟩

/-! ### impl_isWarpNumber: function 112 -/
def impl_isWarpNumber.f (a0 : Int) : Option (Bool) := (impl_within.f a0 0 2).bind fun t11 => (some t11)
set_option maxHeartbeats 8000000 in
set_option maxRecDepth 100000 in
theorem impl_isWarpNumber.calls (a0 : Int) (r : Bool) (w : World) (h : impl_isWarpNumber.f a0 = some r) :
  Calls Tryz.prog 112 #[.int .i64 a0] w fun e w' => e = .returned (.bool r) ∧ Drawn0 w w' := by
 have H : ((impl_within.f a0 0 2).bind fun t11 => (some t11)) = some r := h
 clear h; obtain ⟨t11, A2, H⟩ := bnd H; (try dsimp only at H); obtain rfl := oI H
 go_enter Tryz.func112, Tryz.ntmps112
 go_wp2_with (first | (refine gL 70 (some 4) Tryz.func70 #[.int .i64 a0, .int .i64 0, .int .i64 2] ?_; (with_reducible refine (impl_within.calls a0 0 2 t11 _ A2.out).mono ?_); rintro e w' ⟨rfl, ⟨nd, rfl⟩⟩; refine ⟨_, rfl, ?_⟩))
 go_ret
 exact ⟨by first | rfl | (simp; done) | (simp [*]; done), by repeat (first | exact Drawn0.refl _ | apply Drawn0.step)⟩

/-! ### impl_areAllRegs: function 113 -/
def impl_areAllRegs.f (l0 : List Int) : Option (Bool) := some ((l0.length : Int) == 32)
set_option maxHeartbeats 8000000 in
set_option maxRecDepth 100000 in
theorem impl_areAllRegs.calls (A0 : Option Addr) (c0 : Nat) (l0 : List Int) (r : Bool) (w : World) (hr0 : Kd.C (Kd.int .i64) w A0 l0.length l0) (hc0 : l0.length ≤ c0) (h : impl_areAllRegs.f l0 = some r) :
  Calls Tryz.prog 113 #[.slice A0 l0.length c0] w fun e w' => e = .returned (.bool r) ∧ Drawn0 w w' := by
 have HR0 := Aside0.mk hr0; have HC0 := Aside0.mk hc0; clear hr0 hc0
 have H : (some ((l0.length : Int) == 32)) = some r := h
 clear h; obtain rfl := oI H
 go_enter Tryz.func113, Tryz.ntmps113
 go_wp2
 go_ret
 exact ⟨by first | rfl | (simp; done) | (simp [*]; done), by repeat (first | exact Drawn0.refl _ | apply Drawn0.step)⟩

/-! ### impl_IsMask: function 146 -/
def impl_IsMask.f (a0 : Int) : Option (Bool) := (impl_within.f a0 0 255).bind fun t11 => (some t11)
set_option maxHeartbeats 8000000 in
set_option maxRecDepth 100000 in
theorem impl_IsMask.calls (a0 : Int) (r : Bool) (w : World) (h : impl_IsMask.f a0 = some r) :
  Calls Tryz.prog 146 #[.int .i64 a0] w fun e w' => e = .returned (.bool r) ∧ Drawn0 w w' := by
 have H : ((impl_within.f a0 0 255).bind fun t11 => (some t11)) = some r := h
 clear h; obtain ⟨t11, A2, H⟩ := bnd H; (try dsimp only at H); obtain rfl := oI H
 go_enter Tryz.func146, Tryz.ntmps146
 go_wp2_with (first | (refine gL 70 (some 4) Tryz.func70 #[.int .i64 a0, .int .i64 0, .int .i64 255] ?_; (with_reducible refine (impl_within.calls a0 0 255 t11 _ A2.out).mono ?_); rintro e w' ⟨rfl, ⟨nd, rfl⟩⟩; refine ⟨_, rfl, ?_⟩))
 go_ret
 exact ⟨by first | rfl | (simp; done) | (simp [*]; done), by repeat (first | exact Drawn0.refl _ | apply Drawn0.step)⟩

/-! ### impl_areFrames: function 114 -/
def impl_areFrames.l0 : Nat → List (S132) → Int → List (S132) → Int → Int → Option (Bool)
 | 0, _, _, _, _, _ => none
 | k + 1, x0, x1, x8, x9, x10 => if x10 < x9 then (if 0 ≤ x10 then (if x10 < (x8.length : Int) then ((impl_within.f ((rd_T132 x8 x10).f0) 0 x1).bind fun t17 => (if t17 = true then ((impl_within.f ((rd_T132 x8 x10).f1) 0 x1).bind fun t18 => (if t18 = true then ((impl_IsMask.f ((rd_T132 x8 x10).f2)).bind fun t19 => (if t19 = true then (if ((rd_T132 x8 x10).f2) = 0 then (some false) else (impl_areFrames.l0 k x0 x1 x8 x9 (wrap64 (x10 + 1)))) else (some false))) else (some false))) else (some false))) else (none)) else (none)) else (if (x0.length : Int) = 0 then (some true) else (if 0 ≤ (wrap64 ((x0.length : Int) - 1)) then (if (wrap64 ((x0.length : Int) - 1)) < (x0.length : Int) then (if (x0.length : Int) ≤ 24 then (if ((rd_T132 x0 (wrap64 ((x0.length : Int) - 1))).f0) = ((rd_T132 x0 (wrap64 ((x0.length : Int) - 1))).f1) then (some false) else (if ((rd_T132 x0 (wrap64 ((x0.length : Int) - 1))).f0) = x1 then (some false) else (if 0 < (x0.length : Int) then (if ((rd_T132 x0 0).f1) = x1 then (some (((rd_T132 x0 0).f2) == 255)) else (some false)) else (none)))) else (some false)) else (none)) else (none)))
def impl_areFrames.f (k : Nat) (l0 : List (S132)) (a1 : Int) : Option (Bool) := impl_areFrames.l0 k l0 a1 l0 (l0.length : Int) 0
set_option maxHeartbeats 8000000 in
set_option maxRecDepth 100000 in
theorem impl_areFrames.calls (k : Nat) (A0 : Option Addr) (c0 : Nat) (l0 : List (S132)) (a1 : Int) (r : Bool) (w : World) (hr0 : Kd.C k132 w A0 l0.length l0) (hc0 : l0.length ≤ c0) (h : impl_areFrames.f k l0 a1 = some r) :
  Calls Tryz.prog 114 #[.slice A0 l0.length c0, .int .i64 a1] w fun e w' => e = .returned (.bool r) ∧ Below w.heap.size w w' := by
 have hu132 := Tryz.underlying132; have HR0 := Aside0.mk hr0; have HC0 := Aside0.mk hc0; clear hr0 hc0; have HB := Aside0.mk (Below.refl w.heap.size w)
 have H : (impl_areFrames.l0 k l0 a1 l0 (l0.length : Int) 0) = some r := h
 clear h
 have H' := Aside0.mk H
 clear H
 go_enter Tryz.func114, Tryz.ntmps114
 go_wp2
 go_loopg [10] k (fun kq v10 w' => ∃ (x10_1 : Int), v10 = .int .i64 x10_1 ∧ Aside0 (impl_areFrames.l0 kq l0 a1 l0 (l0.length : Int) x10_1 = some r) ∧ Aside0 (kq ≤ k) ∧ Aside0 (Below w.heap.size w w'))
 case atStart => exact ⟨(0), rfx, H', ⟨Nat.le_refl _⟩, ⟨bels⟩⟩
 case round =>
  clear H'
  try clear c1
  try clear p2
  obtain ⟨x10_1, rfl, HA, HK1, HB⟩ := hrel
  cases gk with
  | zero => exact absurd HA.out (by simp [impl_areFrames.l0])
  | succ k1 =>
   have H := HA.out; clear HA
   simp only [impl_areFrames.l0] at H
   by_cases c3 : x10_1 < (l0.length : Int)
   ·rw [if_pos c3] at H
    have c3b0 := decide_eq_true c3
    clear c3
    obtain ⟨c4, H⟩ := ifS H
    have c4b0 := decide_eq_true c4
    clear c4
    obtain ⟨c5, H⟩ := ifS H
    have c5b0 := decide_eq_true c5
    clear c5; obtain ⟨t17, A6, H⟩ := bnd H; (try dsimp only at H)
    by_cases c7 : t17 = true
    ·subst c7; rw [if_pos rfl] at H; obtain ⟨t18, A8, H⟩ := bnd H; (try dsimp only at H)
     by_cases c9 : t18 = true
     ·subst c9; rw [if_pos rfl] at H; obtain ⟨t19, A10, H⟩ := bnd H; (try dsimp only at H)
      by_cases c11 : t19 = true
      ·subst c11; rw [if_pos rfl] at H
       by_cases c12 : ((rd_T132 l0 x10_1).f2) = 0
       ·rw [if_pos c12] at H
        have c12b0 : (((rd_T132 l0 x10_1).f2) == 0) = true := beq_iff_eq.mpr c12
        have c12b1 : (((rd_T132 l0 x10_1).f2) != 0) = false := bne_eq_false_iff_eq.mpr c12
        clear c12; obtain rfl := oI H
        have p15 : 0 ≤ (x10_1 : Int) := pq0
        have q15 : x10_1 < (l0.length : Int) := pq0
        obtain ⟨ad15, e15, hx15_0, hx15_1, hx15_2⟩ := at_T132 HR0.out x10_1 p15 q15
        cases e15
        replace hx15_0 := hxb hx15_0; replace hx15_1 := hxb hx15_1; replace hx15_2 := hxb hx15_2; replace p15 := eq_true p15; replace q15 := eq_true q15
        go_wp2_with (first | (refine bxe 6 #[.int .i64 0, .int .i64 0, .int .i64 0] 132 ?_; intro gb16 hg w13 hbox hb; have BK16 := Aside0.mk (hbox); have GW16 := Aside0.mk (gwe hg : w.heap.size ≤ _); have GE16 := GW16; replace HB := hbs hb; clear hb hbox hg; obtain ⟨_, _, _, _, _, _⟩ := box3 BK16) | (refine gL 70 (some 17) Tryz.func70 #[.int .i64 ((rd_T132 l0 x10_1).f0), .int .i64 0, .int .i64 a1] ?_; (with_reducible refine (impl_within.calls ((rd_T132 l0 x10_1).f0) 0 a1 true _ A6.out).mono ?_); rintro e w' ⟨rfl, ⟨nd, rfl⟩⟩; refine ⟨_, rfl, ?_⟩) | (go_at_call 70; (with_reducible refine (impl_within.calls ((rd_T132 l0 x10_1).f1) 0 a1 true _ A8.out).mono ?_); rintro e w' ⟨rfl, ⟨nd, rfl⟩⟩) | (go_at_call 146; (with_reducible refine (impl_IsMask.calls ((rd_T132 l0 x10_1).f2) true _ A10.out).mono ?_); rintro e w' ⟨rfl, ⟨nd, rfl⟩⟩))
        go_ret
        exact ⟨rfe, bels⟩
       ·rw [if_neg c12] at H
        have c12b0 : (((rd_T132 l0 x10_1).f2) == 0) = false := beq_eq_false_iff_ne.mpr c12
        have c12b1 : (((rd_T132 l0 x10_1).f2) != 0) = true := bne_iff_ne.mpr c12
        have H' := Aside0.mk H
        clear H
        have p15 : 0 ≤ (x10_1 : Int) := pq0
        have q15 : x10_1 < (l0.length : Int) := pq0
        obtain ⟨ad15, e15, hx15_0, hx15_1, hx15_2⟩ := at_T132 HR0.out x10_1 p15 q15
        cases e15
        replace hx15_0 := hxb hx15_0; replace hx15_1 := hxb hx15_1; replace hx15_2 := hxb hx15_2; replace p15 := eq_true p15; replace q15 := eq_true q15
        go_wp2_with (first | (refine bxe 6 #[.int .i64 0, .int .i64 0, .int .i64 0] 132 ?_; intro gb16 hg w15 hbox hb; have BK16 := Aside0.mk (hbox); have GW16 := Aside0.mk (gwe hg : w.heap.size ≤ _); have GE16 := GW16; replace HB := hbs hb; clear hb hbox hg; obtain ⟨_, _, _, _, _, _⟩ := box3 BK16) | (refine gL 70 (some 17) Tryz.func70 #[.int .i64 ((rd_T132 l0 x10_1).f0), .int .i64 0, .int .i64 a1] ?_; (with_reducible refine (impl_within.calls ((rd_T132 l0 x10_1).f0) 0 a1 true _ A6.out).mono ?_); rintro e w' ⟨rfl, ⟨nd, rfl⟩⟩; refine ⟨_, rfl, ?_⟩) | (go_at_call 70; (with_reducible refine (impl_within.calls ((rd_T132 l0 x10_1).f1) 0 a1 true _ A8.out).mono ?_); rintro e w' ⟨rfl, ⟨nd, rfl⟩⟩) | (go_at_call 146; (with_reducible refine (impl_IsMask.calls ((rd_T132 l0 x10_1).f2) true _ A10.out).mono ?_); rintro e w' ⟨rfl, ⟨nd, rfl⟩⟩))
        go_roundg k1
        case measure => have := HK1.out; omega
        case rel => exact ⟨(wrap64 (x10_1 + 1)), rfx, H', ⟨by have := HK1.out; omega⟩, ⟨bels⟩⟩
      ·replace c11 := Bool.eq_false_iff.mpr c11; subst c11; rw [if_neg (by decide)] at H; obtain rfl := oI H
       have p15 : 0 ≤ (x10_1 : Int) := pq0
       have q15 : x10_1 < (l0.length : Int) := pq0
       obtain ⟨ad15, e15, hx15_0, hx15_1, hx15_2⟩ := at_T132 HR0.out x10_1 p15 q15
       cases e15
       replace hx15_0 := hxb hx15_0; replace hx15_1 := hxb hx15_1; replace hx15_2 := hxb hx15_2; replace p15 := eq_true p15; replace q15 := eq_true q15
       go_wp2_with (first | (refine bxe 6 #[.int .i64 0, .int .i64 0, .int .i64 0] 132 ?_; intro gb16 hg w17 hbox hb; have BK16 := Aside0.mk (hbox); have GW16 := Aside0.mk (gwe hg : w.heap.size ≤ _); have GE16 := GW16; replace HB := hbs hb; clear hb hbox hg; obtain ⟨_, _, _, _, _, _⟩ := box3 BK16) | (refine gL 70 (some 17) Tryz.func70 #[.int .i64 ((rd_T132 l0 x10_1).f0), .int .i64 0, .int .i64 a1] ?_; (with_reducible refine (impl_within.calls ((rd_T132 l0 x10_1).f0) 0 a1 true _ A6.out).mono ?_); rintro e w' ⟨rfl, ⟨nd, rfl⟩⟩; refine ⟨_, rfl, ?_⟩) | (go_at_call 70; (with_reducible refine (impl_within.calls ((rd_T132 l0 x10_1).f1) 0 a1 true _ A8.out).mono ?_); rintro e w' ⟨rfl, ⟨nd, rfl⟩⟩) | (go_at_call 146; (with_reducible refine (impl_IsMask.calls ((rd_T132 l0 x10_1).f2) false _ A10.out).mono ?_); rintro e w' ⟨rfl, ⟨nd, rfl⟩⟩))
       go_ret
       exact ⟨rfe, bels⟩
     ·replace c9 := Bool.eq_false_iff.mpr c9; subst c9; rw [if_neg (by decide)] at H; obtain rfl := oI H
      have p15 : 0 ≤ (x10_1 : Int) := pq0
      have q15 : x10_1 < (l0.length : Int) := pq0
      obtain ⟨ad15, e15, hx15_0, hx15_1, hx15_2⟩ := at_T132 HR0.out x10_1 p15 q15
      cases e15
      replace hx15_0 := hxb hx15_0; replace hx15_1 := hxb hx15_1; replace hx15_2 := hxb hx15_2; replace p15 := eq_true p15; replace q15 := eq_true q15
      go_wp2_with (first | (refine bxe 6 #[.int .i64 0, .int .i64 0, .int .i64 0] 132 ?_; intro gb16 hg w19 hbox hb; have BK16 := Aside0.mk (hbox); have GW16 := Aside0.mk (gwe hg : w.heap.size ≤ _); have GE16 := GW16; replace HB := hbs hb; clear hb hbox hg; obtain ⟨_, _, _, _, _, _⟩ := box3 BK16) | (refine gL 70 (some 17) Tryz.func70 #[.int .i64 ((rd_T132 l0 x10_1).f0), .int .i64 0, .int .i64 a1] ?_; (with_reducible refine (impl_within.calls ((rd_T132 l0 x10_1).f0) 0 a1 true _ A6.out).mono ?_); rintro e w' ⟨rfl, ⟨nd, rfl⟩⟩; refine ⟨_, rfl, ?_⟩) | (go_at_call 70; (with_reducible refine (impl_within.calls ((rd_T132 l0 x10_1).f1) 0 a1 false _ A8.out).mono ?_); rintro e w' ⟨rfl, ⟨nd, rfl⟩⟩))
      go_ret
      exact ⟨rfe, bels⟩
    ·replace c7 := Bool.eq_false_iff.mpr c7; subst c7; rw [if_neg (by decide)] at H; obtain rfl := oI H
     have p15 : 0 ≤ (x10_1 : Int) := pq0
     have q15 : x10_1 < (l0.length : Int) := pq0
     obtain ⟨ad15, e15, hx15_0, hx15_1, hx15_2⟩ := at_T132 HR0.out x10_1 p15 q15
     cases e15
     replace hx15_0 := hxb hx15_0; replace hx15_1 := hxb hx15_1; replace hx15_2 := hxb hx15_2; replace p15 := eq_true p15; replace q15 := eq_true q15
     go_wp2_with (first | (refine bxe 6 #[.int .i64 0, .int .i64 0, .int .i64 0] 132 ?_; intro gb16 hg w21 hbox hb; have BK16 := Aside0.mk (hbox); have GW16 := Aside0.mk (gwe hg : w.heap.size ≤ _); have GE16 := GW16; replace HB := hbs hb; clear hb hbox hg; obtain ⟨_, _, _, _, _, _⟩ := box3 BK16) | (refine gL 70 (some 17) Tryz.func70 #[.int .i64 ((rd_T132 l0 x10_1).f0), .int .i64 0, .int .i64 a1] ?_; (with_reducible refine (impl_within.calls ((rd_T132 l0 x10_1).f0) 0 a1 false _ A6.out).mono ?_); rintro e w' ⟨rfl, ⟨nd, rfl⟩⟩; refine ⟨_, rfl, ?_⟩))
     go_ret
     exact ⟨rfe, bels⟩
   ·rw [if_neg c3] at H
    have c3b0 := decide_eq_false c3
    clear c3
    by_cases c23 : (l0.length : Int) = 0
    ·rw [if_pos c23] at H
     have c23b0 : ((l0.length : Int) == 0) = true := beq_iff_eq.mpr c23
     have c23b1 : ((l0.length : Int) != 0) = false := bne_eq_false_iff_eq.mpr c23
     clear c23; obtain rfl := oI H
     go_wp2
     go_ret
     exact ⟨rfe, bels⟩
    ·rw [if_neg c23] at H
     have c23b0 : ((l0.length : Int) == 0) = false := beq_eq_false_iff_ne.mpr c23
     have c23b1 : ((l0.length : Int) != 0) = true := bne_iff_ne.mpr c23
     have c23b2 : ¬ (l0 = []) := fun h_ => c23 (by rw [h_]; rfl)
     obtain ⟨ji24, hji24⟩ : ∃ j_ : Int, (wrap64 ((l0.length : Int) - 1)) = j_ := ⟨_, rfl⟩
     (first | rw [hji24] at H | simp only [hji24] at H)
     have hji24w : (IntKind.i64.wrap ((l0.length : Int) - 1)) = ji24 := (i64_w _).trans hji24
     obtain ⟨c25, H⟩ := ifS H
     have c25b0 := decide_eq_true c25
     clear c25
     obtain ⟨c26, H⟩ := ifS H
     have c26b0 := decide_eq_true c26
     clear c26
     by_cases c27 : (l0.length : Int) ≤ 24
     ·rw [if_pos c27] at H
      have c27b0 := decide_eq_true c27
      have c27b1 : decide (l0.length ≤ 24) = true := decide_eq_true (by omega)
      clear c27
      by_cases c28 : ((rd_T132 l0 (ji24)).f0) = ((rd_T132 l0 (ji24)).f1)
      ·rw [if_pos c28] at H
       have c28b0 : (((rd_T132 l0 (ji24)).f0) == ((rd_T132 l0 (ji24)).f1)) = true := beq_iff_eq.mpr c28
       have c28b1 : (((rd_T132 l0 (ji24)).f0) != ((rd_T132 l0 (ji24)).f1)) = false := bne_eq_false_iff_eq.mpr c28
       clear c28; obtain rfl := oI H
       have p11 : 0 ≤ ((ji24) : Int) := pq0
       have q11 : (ji24) < (l0.length : Int) := pq0
       obtain ⟨ad11, e11, hx11_0, hx11_1, hx11_2⟩ := at_T132 HR0.out (ji24) p11 q11
       cases e11
       replace hx11_0 := hxb hx11_0; replace hx11_1 := hxb hx11_1; replace hx11_2 := hxb hx11_2; replace p11 := eq_true p11; replace q11 := eq_true q11
       go_wp2_with (first | (refine bxe 7 #[.int .i64 0, .int .i64 0, .int .i64 0] 132 ?_; intro gb12 hg w29 hbox hb; have BK12 := Aside0.mk (hbox); have GW12 := Aside0.mk (gwe hg : w.heap.size ≤ _); have GE12 := GW12; replace HB := hbs hb; clear hb hbox hg; obtain ⟨_, _, _, _, _, _⟩ := box3 BK12))
       go_ret
       exact ⟨by first | rfl | (simp [errW_none, errW_some] <;> rfl) | (simp only [← hji24]; first | rfl | (simp [errW_none, errW_some] <;> rfl)) | (simp [*, errW_none, errW_some] <;> rfl), bels⟩
      ·rw [if_neg c28] at H
       have c28b0 : (((rd_T132 l0 (ji24)).f0) == ((rd_T132 l0 (ji24)).f1)) = false := beq_eq_false_iff_ne.mpr c28
       have c28b1 : (((rd_T132 l0 (ji24)).f0) != ((rd_T132 l0 (ji24)).f1)) = true := bne_iff_ne.mpr c28
       by_cases c31 : ((rd_T132 l0 (ji24)).f0) = a1
       ·rw [if_pos c31] at H
        have c31b0 : (((rd_T132 l0 (ji24)).f0) == a1) = true := beq_iff_eq.mpr c31
        have c31b1 : (((rd_T132 l0 (ji24)).f0) != a1) = false := bne_eq_false_iff_eq.mpr c31
        clear c31; obtain rfl := oI H
        have p11 : 0 ≤ ((ji24) : Int) := pq0
        have q11 : (ji24) < (l0.length : Int) := pq0
        obtain ⟨ad11, e11, hx11_0, hx11_1, hx11_2⟩ := at_T132 HR0.out (ji24) p11 q11
        cases e11
        replace hx11_0 := hxb hx11_0; replace hx11_1 := hxb hx11_1; replace hx11_2 := hxb hx11_2; replace p11 := eq_true p11; replace q11 := eq_true q11
        go_wp2_with (first | (refine bxe 7 #[.int .i64 0, .int .i64 0, .int .i64 0] 132 ?_; intro gb12 hg w32 hbox hb; have BK12 := Aside0.mk (hbox); have GW12 := Aside0.mk (gwe hg : w.heap.size ≤ _); have GE12 := GW12; replace HB := hbs hb; clear hb hbox hg; obtain ⟨_, _, _, _, _, _⟩ := box3 BK12))
        go_ret
        exact ⟨by first | rfl | (simp [errW_none, errW_some] <;> rfl) | (simp only [← hji24]; first | rfl | (simp [errW_none, errW_some] <;> rfl)) | (simp [*, errW_none, errW_some] <;> rfl), bels⟩
       ·rw [if_neg c31] at H
        have c31b0 : (((rd_T132 l0 (ji24)).f0) == a1) = false := beq_eq_false_iff_ne.mpr c31
        have c31b1 : (((rd_T132 l0 (ji24)).f0) != a1) = true := bne_iff_ne.mpr c31
        obtain ⟨c34, H⟩ := ifS H
        have c34b0 := decide_eq_true c34
        have c34b1 : decide (0 < l0.length) = true := decide_eq_true (by omega)
        clear c34
        by_cases c35 : ((rd_T132 l0 0).f1) = a1
        ·rw [if_pos c35] at H
         have c35b0 : (((rd_T132 l0 0).f1) == a1) = true := beq_iff_eq.mpr c35
         have c35b1 : (((rd_T132 l0 0).f1) != a1) = false := bne_eq_false_iff_eq.mpr c35
         clear c35; obtain rfl := oI H
         have p11 : 0 ≤ ((ji24) : Int) := pq0
         have q11 : (ji24) < (l0.length : Int) := pq0
         obtain ⟨ad11, e11, hx11_0, hx11_1, hx11_2⟩ := at_T132 HR0.out (ji24) p11 q11
         cases e11
         replace hx11_0 := hxb hx11_0; replace hx11_1 := hxb hx11_1; replace hx11_2 := hxb hx11_2; replace p11 := eq_true p11; replace q11 := eq_true q11
         go_wp2_with (first | (refine bxe 7 #[.int .i64 0, .int .i64 0, .int .i64 0] 132 ?_; intro gb12 hg w36 hbox hb; have BK12 := Aside0.mk (hbox); have GW12 := Aside0.mk (gwe hg : w.heap.size ≤ _); have GE12 := GW12; replace HB := hbs hb; clear hb hbox hg; obtain ⟨_, _, _, _, _, _⟩ := box3 BK12; have p13 : 0 ≤ (0 : Int) := (by omega); have q13 : 0 < (l0.length : Int) := pq0; obtain ⟨ad13, e13, hx13_0, hx13_1, hx13_2⟩ := at_T132 HR0.out 0 p13 q13; obtain rfl : ad11 = ad13 := (by injection e13); have qi13 : (0 < l0.length) = True := eq_true (by omega); (try rw [show ((0 : Int)).toNat = 0 from rfl] at hx13_0); (try rw [show 0 * 3 = 0 from rfl] at hx13_0); (try rw [Addr.add_zero'] at hx13_0); (try rw [show ((0 : Int)).toNat = 0 from rfl] at hx13_1); (try rw [show 0 * 3 = 0 from rfl] at hx13_1); (try rw [Addr.add_zero'] at hx13_1); (try rw [show ((0 : Int)).toNat = 0 from rfl] at hx13_2); (try rw [show 0 * 3 = 0 from rfl] at hx13_2); (try rw [Addr.add_zero'] at hx13_2); have hn13_0 : ad11.block ≠ gb12 := Nat.ne_of_lt (Nat.lt_of_lt_of_le (by have := World.block_lt_of_cell? _ _ hx13_0; first | rwa [add_block] at this | exact this) GW12.out); have hn13_1 : ad11.block ≠ gb12 := Nat.ne_of_lt (Nat.lt_of_lt_of_le (by have := World.block_lt_of_cell? _ _ hx13_0; first | rwa [add_block] at this | exact this) GW12.out); have hn13_2 : ad11.block ≠ gb12 := Nat.ne_of_lt (Nat.lt_of_lt_of_le (by have := World.block_lt_of_cell? _ _ hx13_0; first | rwa [add_block] at this | exact this) GW12.out); replace hx13_0 := hxb hx13_0; replace hx13_1 := hxb hx13_1; replace hx13_2 := hxb hx13_2; replace hx13_0 := (cell_far (p := ⟨gb12, 0, none⟩) (by first | (rw [add_block]; exact hn13_0) | (show (Addr.add _ _).block ≠ _; rw [add_block]; exact hn13_0) | exact hn13_0) (.int .i64 ((rd_T132 l0 (ji24)).f0))).trans hx13_0; replace hx13_1 := (cell_far (p := ⟨gb12, 0, none⟩) (by first | (rw [add_block]; exact hn13_0) | (show (Addr.add _ _).block ≠ _; rw [add_block]; exact hn13_0) | exact hn13_0) (.int .i64 ((rd_T132 l0 (ji24)).f0))).trans hx13_1; replace hx13_2 := (cell_far (p := ⟨gb12, 0, none⟩) (by first | (rw [add_block]; exact hn13_0) | (show (Addr.add _ _).block ≠ _; rw [add_block]; exact hn13_0) | exact hn13_0) (.int .i64 ((rd_T132 l0 (ji24)).f0))).trans hx13_2; replace hx13_0 := (cell_far (p := ⟨gb12, 1, none⟩) (by first | (rw [add_block]; exact hn13_1) | (show (Addr.add _ _).block ≠ _; rw [add_block]; exact hn13_1) | exact hn13_1) (.int .i64 ((rd_T132 l0 (ji24)).f1))).trans hx13_0; replace hx13_1 := (cell_far (p := ⟨gb12, 1, none⟩) (by first | (rw [add_block]; exact hn13_1) | (show (Addr.add _ _).block ≠ _; rw [add_block]; exact hn13_1) | exact hn13_1) (.int .i64 ((rd_T132 l0 (ji24)).f1))).trans hx13_1; replace hx13_2 := (cell_far (p := ⟨gb12, 1, none⟩) (by first | (rw [add_block]; exact hn13_1) | (show (Addr.add _ _).block ≠ _; rw [add_block]; exact hn13_1) | exact hn13_1) (.int .i64 ((rd_T132 l0 (ji24)).f1))).trans hx13_2; replace hx13_0 := (cell_far (p := ⟨gb12, 2, none⟩) (by first | (rw [add_block]; exact hn13_2) | (show (Addr.add _ _).block ≠ _; rw [add_block]; exact hn13_2) | exact hn13_2) (.int .i64 ((rd_T132 l0 (ji24)).f2))).trans hx13_0; replace hx13_1 := (cell_far (p := ⟨gb12, 2, none⟩) (by first | (rw [add_block]; exact hn13_2) | (show (Addr.add _ _).block ≠ _; rw [add_block]; exact hn13_2) | exact hn13_2) (.int .i64 ((rd_T132 l0 (ji24)).f2))).trans hx13_1; replace hx13_2 := (cell_far (p := ⟨gb12, 2, none⟩) (by first | (rw [add_block]; exact hn13_2) | (show (Addr.add _ _).block ≠ _; rw [add_block]; exact hn13_2) | exact hn13_2) (.int .i64 ((rd_T132 l0 (ji24)).f2))).trans hx13_2; clear hn13_0; clear hn13_1; clear hn13_2; replace p13 := eq_true p13; replace q13 := eq_true q13; have p14 : 0 ≤ (0 : Int) := (by omega); have q14 : 0 < (l0.length : Int) := pq0; obtain ⟨ad14, e14, hx14_0, hx14_1, hx14_2⟩ := at_T132 HR0.out 0 p14 q14; obtain rfl : ad11 = ad14 := (by injection e14); have qi14 : (0 < l0.length) = True := eq_true (by omega); (try rw [show ((0 : Int)).toNat = 0 from rfl] at hx14_0); (try rw [show 0 * 3 = 0 from rfl] at hx14_0); (try rw [Addr.add_zero'] at hx14_0); (try rw [show ((0 : Int)).toNat = 0 from rfl] at hx14_1); (try rw [show 0 * 3 = 0 from rfl] at hx14_1); (try rw [Addr.add_zero'] at hx14_1); (try rw [show ((0 : Int)).toNat = 0 from rfl] at hx14_2); (try rw [show 0 * 3 = 0 from rfl] at hx14_2); (try rw [Addr.add_zero'] at hx14_2); have hn14_0 : ad11.block ≠ gb12 := Nat.ne_of_lt (Nat.lt_of_lt_of_le (by have := World.block_lt_of_cell? _ _ hx14_0; first | rwa [add_block] at this | exact this) GW12.out); have hn14_1 : ad11.block ≠ gb12 := Nat.ne_of_lt (Nat.lt_of_lt_of_le (by have := World.block_lt_of_cell? _ _ hx14_0; first | rwa [add_block] at this | exact this) GW12.out); have hn14_2 : ad11.block ≠ gb12 := Nat.ne_of_lt (Nat.lt_of_lt_of_le (by have := World.block_lt_of_cell? _ _ hx14_0; first | rwa [add_block] at this | exact this) GW12.out); replace hx14_0 := hxb hx14_0; replace hx14_1 := hxb hx14_1; replace hx14_2 := hxb hx14_2; replace hx14_0 := (cell_far (p := ⟨gb12, 0, none⟩) (by first | (rw [add_block]; exact hn14_0) | (show (Addr.add _ _).block ≠ _; rw [add_block]; exact hn14_0) | exact hn14_0) (.int .i64 ((rd_T132 l0 (ji24)).f0))).trans hx14_0; replace hx14_1 := (cell_far (p := ⟨gb12, 0, none⟩) (by first | (rw [add_block]; exact hn14_0) | (show (Addr.add _ _).block ≠ _; rw [add_block]; exact hn14_0) | exact hn14_0) (.int .i64 ((rd_T132 l0 (ji24)).f0))).trans hx14_1; replace hx14_2 := (cell_far (p := ⟨gb12, 0, none⟩) (by first | (rw [add_block]; exact hn14_0) | (show (Addr.add _ _).block ≠ _; rw [add_block]; exact hn14_0) | exact hn14_0) (.int .i64 ((rd_T132 l0 (ji24)).f0))).trans hx14_2; replace hx14_0 := (cell_far (p := ⟨gb12, 1, none⟩) (by first | (rw [add_block]; exact hn14_1) | (show (Addr.add _ _).block ≠ _; rw [add_block]; exact hn14_1) | exact hn14_1) (.int .i64 ((rd_T132 l0 (ji24)).f1))).trans hx14_0; replace hx14_1 := (cell_far (p := ⟨gb12, 1, none⟩) (by first | (rw [add_block]; exact hn14_1) | (show (Addr.add _ _).block ≠ _; rw [add_block]; exact hn14_1) | exact hn14_1) (.int .i64 ((rd_T132 l0 (ji24)).f1))).trans hx14_1; replace hx14_2 := (cell_far (p := ⟨gb12, 1, none⟩) (by first | (rw [add_block]; exact hn14_1) | (show (Addr.add _ _).block ≠ _; rw [add_block]; exact hn14_1) | exact hn14_1) (.int .i64 ((rd_T132 l0 (ji24)).f1))).trans hx14_2; replace hx14_0 := (cell_far (p := ⟨gb12, 2, none⟩) (by first | (rw [add_block]; exact hn14_2) | (show (Addr.add _ _).block ≠ _; rw [add_block]; exact hn14_2) | exact hn14_2) (.int .i64 ((rd_T132 l0 (ji24)).f2))).trans hx14_0; replace hx14_1 := (cell_far (p := ⟨gb12, 2, none⟩) (by first | (rw [add_block]; exact hn14_2) | (show (Addr.add _ _).block ≠ _; rw [add_block]; exact hn14_2) | exact hn14_2) (.int .i64 ((rd_T132 l0 (ji24)).f2))).trans hx14_1; replace hx14_2 := (cell_far (p := ⟨gb12, 2, none⟩) (by first | (rw [add_block]; exact hn14_2) | (show (Addr.add _ _).block ≠ _; rw [add_block]; exact hn14_2) | exact hn14_2) (.int .i64 ((rd_T132 l0 (ji24)).f2))).trans hx14_2; clear hn14_0; clear hn14_1; clear hn14_2; replace p14 := eq_true p14; replace q14 := eq_true q14))
         go_ret
         exact ⟨by first | rfl | (simp [errW_none, errW_some] <;> rfl) | (simp only [← hji24]; first | rfl | (simp [errW_none, errW_some] <;> rfl)) | (simp [*, errW_none, errW_some] <;> rfl), bels⟩
        ·rw [if_neg c35] at H
         have c35b0 : (((rd_T132 l0 0).f1) == a1) = false := beq_eq_false_iff_ne.mpr c35
         have c35b1 : (((rd_T132 l0 0).f1) != a1) = true := bne_iff_ne.mpr c35
         obtain rfl := oI H
         have p11 : 0 ≤ ((ji24) : Int) := pq0
         have q11 : (ji24) < (l0.length : Int) := pq0
         obtain ⟨ad11, e11, hx11_0, hx11_1, hx11_2⟩ := at_T132 HR0.out (ji24) p11 q11
         cases e11
         replace hx11_0 := hxb hx11_0; replace hx11_1 := hxb hx11_1; replace hx11_2 := hxb hx11_2; replace p11 := eq_true p11; replace q11 := eq_true q11
         go_wp2_with (first | (refine bxe 7 #[.int .i64 0, .int .i64 0, .int .i64 0] 132 ?_; intro gb12 hg w38 hbox hb; have BK12 := Aside0.mk (hbox); have GW12 := Aside0.mk (gwe hg : w.heap.size ≤ _); have GE12 := GW12; replace HB := hbs hb; clear hb hbox hg; obtain ⟨_, _, _, _, _, _⟩ := box3 BK12; have p13 : 0 ≤ (0 : Int) := (by omega); have q13 : 0 < (l0.length : Int) := pq0; obtain ⟨ad13, e13, hx13_0, hx13_1, hx13_2⟩ := at_T132 HR0.out 0 p13 q13; obtain rfl : ad11 = ad13 := (by injection e13); have qi13 : (0 < l0.length) = True := eq_true (by omega); (try rw [show ((0 : Int)).toNat = 0 from rfl] at hx13_0); (try rw [show 0 * 3 = 0 from rfl] at hx13_0); (try rw [Addr.add_zero'] at hx13_0); (try rw [show ((0 : Int)).toNat = 0 from rfl] at hx13_1); (try rw [show 0 * 3 = 0 from rfl] at hx13_1); (try rw [Addr.add_zero'] at hx13_1); (try rw [show ((0 : Int)).toNat = 0 from rfl] at hx13_2); (try rw [show 0 * 3 = 0 from rfl] at hx13_2); (try rw [Addr.add_zero'] at hx13_2); have hn13_0 : ad11.block ≠ gb12 := Nat.ne_of_lt (Nat.lt_of_lt_of_le (by have := World.block_lt_of_cell? _ _ hx13_0; first | rwa [add_block] at this | exact this) GW12.out); have hn13_1 : ad11.block ≠ gb12 := Nat.ne_of_lt (Nat.lt_of_lt_of_le (by have := World.block_lt_of_cell? _ _ hx13_0; first | rwa [add_block] at this | exact this) GW12.out); have hn13_2 : ad11.block ≠ gb12 := Nat.ne_of_lt (Nat.lt_of_lt_of_le (by have := World.block_lt_of_cell? _ _ hx13_0; first | rwa [add_block] at this | exact this) GW12.out); replace hx13_0 := hxb hx13_0; replace hx13_1 := hxb hx13_1; replace hx13_2 := hxb hx13_2; replace hx13_0 := (cell_far (p := ⟨gb12, 0, none⟩) (by first | (rw [add_block]; exact hn13_0) | (show (Addr.add _ _).block ≠ _; rw [add_block]; exact hn13_0) | exact hn13_0) (.int .i64 ((rd_T132 l0 (ji24)).f0))).trans hx13_0; replace hx13_1 := (cell_far (p := ⟨gb12, 0, none⟩) (by first | (rw [add_block]; exact hn13_0) | (show (Addr.add _ _).block ≠ _; rw [add_block]; exact hn13_0) | exact hn13_0) (.int .i64 ((rd_T132 l0 (ji24)).f0))).trans hx13_1; replace hx13_2 := (cell_far (p := ⟨gb12, 0, none⟩) (by first | (rw [add_block]; exact hn13_0) | (show (Addr.add _ _).block ≠ _; rw [add_block]; exact hn13_0) | exact hn13_0) (.int .i64 ((rd_T132 l0 (ji24)).f0))).trans hx13_2; replace hx13_0 := (cell_far (p := ⟨gb12, 1, none⟩) (by first | (rw [add_block]; exact hn13_1) | (show (Addr.add _ _).block ≠ _; rw [add_block]; exact hn13_1) | exact hn13_1) (.int .i64 ((rd_T132 l0 (ji24)).f1))).trans hx13_0; replace hx13_1 := (cell_far (p := ⟨gb12, 1, none⟩) (by first | (rw [add_block]; exact hn13_1) | (show (Addr.add _ _).block ≠ _; rw [add_block]; exact hn13_1) | exact hn13_1) (.int .i64 ((rd_T132 l0 (ji24)).f1))).trans hx13_1; replace hx13_2 := (cell_far (p := ⟨gb12, 1, none⟩) (by first | (rw [add_block]; exact hn13_1) | (show (Addr.add _ _).block ≠ _; rw [add_block]; exact hn13_1) | exact hn13_1) (.int .i64 ((rd_T132 l0 (ji24)).f1))).trans hx13_2; replace hx13_0 := (cell_far (p := ⟨gb12, 2, none⟩) (by first | (rw [add_block]; exact hn13_2) | (show (Addr.add _ _).block ≠ _; rw [add_block]; exact hn13_2) | exact hn13_2) (.int .i64 ((rd_T132 l0 (ji24)).f2))).trans hx13_0; replace hx13_1 := (cell_far (p := ⟨gb12, 2, none⟩) (by first | (rw [add_block]; exact hn13_2) | (show (Addr.add _ _).block ≠ _; rw [add_block]; exact hn13_2) | exact hn13_2) (.int .i64 ((rd_T132 l0 (ji24)).f2))).trans hx13_1; replace hx13_2 := (cell_far (p := ⟨gb12, 2, none⟩) (by first | (rw [add_block]; exact hn13_2) | (show (Addr.add _ _).block ≠ _; rw [add_block]; exact hn13_2) | exact hn13_2) (.int .i64 ((rd_T132 l0 (ji24)).f2))).trans hx13_2; clear hn13_0; clear hn13_1; clear hn13_2; replace p13 := eq_true p13; replace q13 := eq_true q13))
         go_ret
         exact ⟨by first | rfl | (simp [errW_none, errW_some] <;> rfl) | (simp only [← hji24]; first | rfl | (simp [errW_none, errW_some] <;> rfl)) | (simp [*, errW_none, errW_some] <;> rfl), bels⟩
     ·rw [if_neg c27] at H
      have c27b0 := decide_eq_false c27
      have c27b1 : decide (l0.length ≤ 24) = false := decide_eq_false (by omega)
      clear c27; obtain rfl := oI H
      have p11 : 0 ≤ ((ji24) : Int) := pq0
      have q11 : (ji24) < (l0.length : Int) := pq0
      obtain ⟨ad11, e11, hx11_0, hx11_1, hx11_2⟩ := at_T132 HR0.out (ji24) p11 q11
      cases e11
      replace hx11_0 := hxb hx11_0; replace hx11_1 := hxb hx11_1; replace hx11_2 := hxb hx11_2; replace p11 := eq_true p11; replace q11 := eq_true q11
      go_wp2_with (first | (refine bxe 7 #[.int .i64 0, .int .i64 0, .int .i64 0] 132 ?_; intro gb12 hg w40 hbox hb; have BK12 := Aside0.mk (hbox); have GW12 := Aside0.mk (gwe hg : w.heap.size ≤ _); have GE12 := GW12; replace HB := hbs hb; clear hb hbox hg; obtain ⟨_, _, _, _, _, _⟩ := box3 BK12))
      go_ret
      exact ⟨by first | rfl | (simp [errW_none, errW_some] <;> rfl) | (simp only [← hji24]; first | rfl | (simp [errW_none, errW_some] <;> rfl)) | (simp [*, errW_none, errW_some] <;> rfl), bels⟩

/-! ### impl_isWarpOf: function 71 -/
def impl_isWarpOf.f (k : Nat) (l0 : List (S95)) (a1_0 : Int) (l1_1 : List (S132)) (l1_2 : List Int) : Option (Bool) := (impl_isWarpNumber.f a1_0).bind fun t12 => (if t12 = true then ((impl_areAllRegs.f l1_2).bind fun t13 => (if t13 = true then ((impl_AreWords.f l1_2).bind fun t14 => (if t14 = true then ((impl_areFrames.f k l1_1 (l0.length : Int)).bind fun t15 => (some t15)) else (some false))) else (some false))) else (some false))
set_option maxHeartbeats 8000000 in
set_option maxRecDepth 100000 in
theorem impl_isWarpOf.calls (k : Nat) (A0 : Option Addr) (c0 : Nat) (l0 : List (S95)) (a1_0 : Int) (A1_1 : Option Addr) (c1_1 : Nat) (l1_1 : List (S132)) (A1_2 : Option Addr) (c1_2 : Nat) (l1_2 : List Int) (r : Bool) (w : World) (hr0 : Kd.C k95 w A0 l0.length l0) (hc0 : l0.length ≤ c0) (hr1_1 : Kd.C k132 w A1_1 l1_1.length l1_1) (hc1_1 : l1_1.length ≤ c1_1) (hr1_2 : Kd.C (Kd.int .i64) w A1_2 l1_2.length l1_2) (hc1_2 : l1_2.length ≤ c1_2) (h : impl_isWarpOf.f k l0 a1_0 l1_1 l1_2 = some r) :
  Calls Tryz.prog 71 #[.slice A0 l0.length c0, .agg #[.int .i64 a1_0, .slice A1_1 l1_1.length c1_1, .slice A1_2 l1_2.length c1_2]] w fun e w' => e = .returned (.bool r) ∧ Below w.heap.size w w' := by
 have hu59 := Tryz.underlying59; have HR0 := Aside0.mk hr0; have HC0 := Aside0.mk hc0; clear hr0 hc0; have HR1_1 := Aside0.mk hr1_1; have HC1_1 := Aside0.mk hc1_1; clear hr1_1 hc1_1; have HR1_2 := Aside0.mk hr1_2; have HC1_2 := Aside0.mk hc1_2; clear hr1_2 hc1_2; have HB := Aside0.mk (Below.refl w.heap.size w)
 have H : ((impl_isWarpNumber.f a1_0).bind fun t12 => (if t12 = true then ((impl_areAllRegs.f l1_2).bind fun t13 => (if t13 = true then ((impl_AreWords.f l1_2).bind fun t14 => (if t14 = true then ((impl_areFrames.f k l1_1 (l0.length : Int)).bind fun t15 => (some t15)) else (some false))) else (some false))) else (some false))) = some r := h
 clear h; obtain ⟨t12, A3, H⟩ := bnd H; (try dsimp only at H)
 by_cases c4 : t12 = true
 ·subst c4; rw [if_pos rfl] at H; obtain ⟨t13, A5, H⟩ := bnd H; (try dsimp only at H)
  by_cases c6 : t13 = true
  ·subst c6; rw [if_pos rfl] at H; obtain ⟨t14, A7, H⟩ := bnd H; (try dsimp only at H)
   by_cases c8 : t14 = true
   ·subst c8; rw [if_pos rfl] at H; obtain ⟨t15, A9, H⟩ := bnd H; (try dsimp only at H); obtain rfl := oI H
    go_enter Tryz.func71, Tryz.ntmps71
    go_wp2_with (first | ((with_reducible refine gate_dst (N := 3) rfl ?_); (try (refine gate_guard (by rfl) ?_; dsimp only)); refine box_event ?hg (N := 3) ?hd (cs := #[.int .i64 a1_0, .slice A1_1 l1_1.length c1_1, .slice A1_2 l1_2.length c1_2]) (t := 59) ?hr ?_; (case hd => rfl); (case hg => rfl); (case hr => exact gs); intro gb11 hg w10 hbox hb; have BK11 := Aside0.mk (hbox); have GW11 := Aside0.mk (gwe hg : w.heap.size ≤ _); have GE11 := GW11; replace HB := hbs hb; clear hb hbox hg; obtain ⟨_, _, _, _, _, _⟩ := box3 BK11) | (refine gL 112 (some 7) Tryz.func112 #[.int .i64 a1_0] ?_; (with_reducible refine (impl_isWarpNumber.calls a1_0 true _ A3.out).mono ?_); rintro e w' ⟨rfl, ⟨nd, rfl⟩⟩; refine ⟨_, rfl, ?_⟩) | (go_at_call 113; refine (impl_areAllRegs.calls _ _ l1_2 true _ (cb HR1_2) HC1_2.out A5.out).mono ?_; rintro e w' ⟨rfl, ⟨nd, rfl⟩⟩) | (go_at_call 111; refine (impl_AreWords.calls _ _ l1_2 true _ (cb HR1_2) HC1_2.out A7.out).mono ?_; rintro e w' ⟨rfl, ⟨nd, rfl⟩⟩) | (go_at_call 114; refine (impl_areFrames.calls k _ _ l1_1 (l0.length : Int) t15 _ (cb HR1_1) HC1_1.out A9.out).mono ?_; rintro e w12 ⟨rfl, hb⟩; replace BK11 := kb BK11 hb; replace HB := hbs hb; clear hb))
    go_ret
    exact ⟨rfe, bels⟩
   ·replace c8 := Bool.eq_false_iff.mpr c8; subst c8; rw [if_neg (by decide)] at H; obtain rfl := oI H
    go_enter Tryz.func71, Tryz.ntmps71
    go_wp2_with (first | ((with_reducible refine gate_dst (N := 3) rfl ?_); (try (refine gate_guard (by rfl) ?_; dsimp only)); refine box_event ?hg (N := 3) ?hd (cs := #[.int .i64 a1_0, .slice A1_1 l1_1.length c1_1, .slice A1_2 l1_2.length c1_2]) (t := 59) ?hr ?_; (case hd => rfl); (case hg => rfl); (case hr => exact gs); intro gb11 hg w13 hbox hb; have BK11 := Aside0.mk (hbox); have GW11 := Aside0.mk (gwe hg : w.heap.size ≤ _); have GE11 := GW11; replace HB := hbs hb; clear hb hbox hg; obtain ⟨_, _, _, _, _, _⟩ := box3 BK11) | (refine gL 112 (some 7) Tryz.func112 #[.int .i64 a1_0] ?_; (with_reducible refine (impl_isWarpNumber.calls a1_0 true _ A3.out).mono ?_); rintro e w' ⟨rfl, ⟨nd, rfl⟩⟩; refine ⟨_, rfl, ?_⟩) | (go_at_call 113; refine (impl_areAllRegs.calls _ _ l1_2 true _ (cb HR1_2) HC1_2.out A5.out).mono ?_; rintro e w' ⟨rfl, ⟨nd, rfl⟩⟩) | (go_at_call 111; refine (impl_AreWords.calls _ _ l1_2 false _ (cb HR1_2) HC1_2.out A7.out).mono ?_; rintro e w' ⟨rfl, ⟨nd, rfl⟩⟩))
    go_ret
    exact ⟨rfe, bels⟩
  ·replace c6 := Bool.eq_false_iff.mpr c6; subst c6; rw [if_neg (by decide)] at H; obtain rfl := oI H
   go_enter Tryz.func71, Tryz.ntmps71
   go_wp2_with (first | ((with_reducible refine gate_dst (N := 3) rfl ?_); (try (refine gate_guard (by rfl) ?_; dsimp only)); refine box_event ?hg (N := 3) ?hd (cs := #[.int .i64 a1_0, .slice A1_1 l1_1.length c1_1, .slice A1_2 l1_2.length c1_2]) (t := 59) ?hr ?_; (case hd => rfl); (case hg => rfl); (case hr => exact gs); intro gb11 hg w15 hbox hb; have BK11 := Aside0.mk (hbox); have GW11 := Aside0.mk (gwe hg : w.heap.size ≤ _); have GE11 := GW11; replace HB := hbs hb; clear hb hbox hg; obtain ⟨_, _, _, _, _, _⟩ := box3 BK11) | (refine gL 112 (some 7) Tryz.func112 #[.int .i64 a1_0] ?_; (with_reducible refine (impl_isWarpNumber.calls a1_0 true _ A3.out).mono ?_); rintro e w' ⟨rfl, ⟨nd, rfl⟩⟩; refine ⟨_, rfl, ?_⟩) | (go_at_call 113; refine (impl_areAllRegs.calls _ _ l1_2 false _ (cb HR1_2) HC1_2.out A5.out).mono ?_; rintro e w' ⟨rfl, ⟨nd, rfl⟩⟩))
   go_ret
   exact ⟨rfe, bels⟩
 ·replace c4 := Bool.eq_false_iff.mpr c4; subst c4; rw [if_neg (by decide)] at H; obtain rfl := oI H
  go_enter Tryz.func71, Tryz.ntmps71
  go_wp2_with (first | ((with_reducible refine gate_dst (N := 3) rfl ?_); (try (refine gate_guard (by rfl) ?_; dsimp only)); refine box_event ?hg (N := 3) ?hd (cs := #[.int .i64 a1_0, .slice A1_1 l1_1.length c1_1, .slice A1_2 l1_2.length c1_2]) (t := 59) ?hr ?_; (case hd => rfl); (case hg => rfl); (case hr => exact gs); intro gb11 hg w17 hbox hb; have BK11 := Aside0.mk (hbox); have GW11 := Aside0.mk (gwe hg : w.heap.size ≤ _); have GE11 := GW11; replace HB := hbs hb; clear hb hbox hg; obtain ⟨_, _, _, _, _, _⟩ := box3 BK11) | (refine gL 112 (some 7) Tryz.func112 #[.int .i64 a1_0] ?_; (with_reducible refine (impl_isWarpNumber.calls a1_0 false _ A3.out).mono ?_); rintro e w' ⟨rfl, ⟨nd, rfl⟩⟩; refine ⟨_, rfl, ?_⟩))
  go_ret
  exact ⟨rfe, bels⟩

/-! ### impl_formOf: function 142 -/
def impl_formOf.f (a0 : Int) : Option (ByteArray) := (impl_within.f a0 0 16).bind fun t11 => (if t11 = true then ((some (([(⟨#[45, 45, 45]⟩ : ByteArray), (⟨#[82, 87, 45]⟩ : ByteArray), (⟨#[82, 82, 45]⟩ : ByteArray), (⟨#[82, 82, 82]⟩ : ByteArray), (⟨#[82, 82, 82]⟩ : ByteArray), (⟨#[82, 82, 82]⟩ : ByteArray), (⟨#[82, 82, 82]⟩ : ByteArray), (⟨#[82, 82, 82]⟩ : ByteArray), (⟨#[82, 45, 45]⟩ : ByteArray), (⟨#[82, 82, 82]⟩ : ByteArray), (⟨#[82, 84, 45]⟩ : ByteArray), (⟨#[45, 84, 45]⟩ : ByteArray), (⟨#[45, 45, 45]⟩ : ByteArray), (⟨#[82, 82, 45]⟩ : ByteArray), (⟨#[82, 82, 45]⟩ : ByteArray), (⟨#[82, 82, 45]⟩ : ByteArray), (⟨#[45, 45, 45]⟩ : ByteArray)] : List ByteArray) : List ByteArray)).bind fun y12 => (if 0 ≤ a0 then (if a0 < (y12.length : Int) then (some (rdOf ByteArray.empty y12 a0)) else (none)) else (none))) else (some (⟨#[]⟩ : ByteArray)))
set_option maxHeartbeats 8000000 in
set_option maxRecDepth 100000 in
theorem impl_formOf.calls (a0 : Int) (r : ByteArray) (w : World) (h : impl_formOf.f a0 = some r) :
  Calls Tryz.prog 142 #[.int .i64 a0] w fun e w' => e = .returned (.string r) ∧ Below w.heap.size w w' := by
 have HB := Aside0.mk (Below.refl w.heap.size w)
 have H : ((impl_within.f a0 0 16).bind fun t11 => (if t11 = true then ((some (([(⟨#[45, 45, 45]⟩ : ByteArray), (⟨#[82, 87, 45]⟩ : ByteArray), (⟨#[82, 82, 45]⟩ : ByteArray), (⟨#[82, 82, 82]⟩ : ByteArray), (⟨#[82, 82, 82]⟩ : ByteArray), (⟨#[82, 82, 82]⟩ : ByteArray), (⟨#[82, 82, 82]⟩ : ByteArray), (⟨#[82, 82, 82]⟩ : ByteArray), (⟨#[82, 45, 45]⟩ : ByteArray), (⟨#[82, 82, 82]⟩ : ByteArray), (⟨#[82, 84, 45]⟩ : ByteArray), (⟨#[45, 84, 45]⟩ : ByteArray), (⟨#[45, 45, 45]⟩ : ByteArray), (⟨#[82, 82, 45]⟩ : ByteArray), (⟨#[82, 82, 45]⟩ : ByteArray), (⟨#[82, 82, 45]⟩ : ByteArray), (⟨#[45, 45, 45]⟩ : ByteArray)] : List ByteArray) : List ByteArray)).bind fun y12 => (if 0 ≤ a0 then (if a0 < (y12.length : Int) then (some (rdOf ByteArray.empty y12 a0)) else (none)) else (none))) else (some (⟨#[]⟩ : ByteArray)))) = some r := h
 clear h; obtain ⟨t11, A2, H⟩ := bnd H; (try dsimp only at H)
 by_cases c3 : t11 = true
 ·subst c3; rw [if_pos rfl] at H
  obtain ⟨y12, Ny12, H⟩ := nmA (α := List ByteArray) (([(⟨#[45, 45, 45]⟩ : ByteArray), (⟨#[82, 87, 45]⟩ : ByteArray), (⟨#[82, 82, 45]⟩ : ByteArray), (⟨#[82, 82, 82]⟩ : ByteArray), (⟨#[82, 82, 82]⟩ : ByteArray), (⟨#[82, 82, 82]⟩ : ByteArray), (⟨#[82, 82, 82]⟩ : ByteArray), (⟨#[82, 82, 82]⟩ : ByteArray), (⟨#[82, 45, 45]⟩ : ByteArray), (⟨#[82, 82, 82]⟩ : ByteArray), (⟨#[82, 84, 45]⟩ : ByteArray), (⟨#[45, 84, 45]⟩ : ByteArray), (⟨#[45, 45, 45]⟩ : ByteArray), (⟨#[82, 82, 45]⟩ : ByteArray), (⟨#[82, 82, 45]⟩ : ByteArray), (⟨#[82, 82, 45]⟩ : ByteArray), (⟨#[45, 45, 45]⟩ : ByteArray)] : List ByteArray)) H; (try dsimp only at H)
  obtain ⟨c4, H⟩ := ifS H
  have c4b0 := decide_eq_true c4
  clear c4
  obtain ⟨c5, H⟩ := ifS H
  have c5b0 := decide_eq_true c5
  clear c5; obtain rfl := oI H
  go_enter Tryz.func142, Tryz.ntmps142
  go_wp2_with (first | (refine gL 70 (some 4) Tryz.func70 #[.int .i64 a0, .int .i64 0, .int .i64 16] ?_; (with_reducible refine (impl_within.calls a0 0 16 true _ A2.out).mono ?_); rintro e w' ⟨rfl, ⟨nd, rfl⟩⟩; refine ⟨_, rfl, ?_⟩) | ((with_reducible refine gate_dst (N := 6) rfl ?_); refine Kd.R_lit Kd.string _ 9 ?hg (N := 6) ?hd (xs := ([(⟨#[45, 45, 45]⟩ : ByteArray), (⟨#[82, 87, 45]⟩ : ByteArray), (⟨#[82, 82, 45]⟩ : ByteArray), (⟨#[82, 82, 82]⟩ : ByteArray), (⟨#[82, 82, 82]⟩ : ByteArray), (⟨#[82, 82, 82]⟩ : ByteArray), (⟨#[82, 82, 82]⟩ : ByteArray), (⟨#[82, 82, 82]⟩ : ByteArray), (⟨#[82, 45, 45]⟩ : ByteArray), (⟨#[82, 82, 82]⟩ : ByteArray), (⟨#[82, 84, 45]⟩ : ByteArray), (⟨#[45, 84, 45]⟩ : ByteArray), (⟨#[45, 45, 45]⟩ : ByteArray), (⟨#[82, 82, 45]⟩ : ByteArray), (⟨#[82, 82, 45]⟩ : ByteArray), (⟨#[82, 82, 45]⟩ : ByteArray), (⟨#[45, 45, 45]⟩ : ByteArray)] : List ByteArray)) (inner := [.string (⟨#[45, 45, 45]⟩ : ByteArray), .string (⟨#[82, 87, 45]⟩ : ByteArray), .string (⟨#[82, 82, 45]⟩ : ByteArray), .string (⟨#[82, 82, 82]⟩ : ByteArray), .string (⟨#[82, 82, 82]⟩ : ByteArray), .string (⟨#[82, 82, 82]⟩ : ByteArray), .string (⟨#[82, 82, 82]⟩ : ByteArray), .string (⟨#[82, 82, 82]⟩ : ByteArray), .string (⟨#[82, 45, 45]⟩ : ByteArray), .string (⟨#[82, 82, 82]⟩ : ByteArray), .string (⟨#[82, 84, 45]⟩ : ByteArray), .string (⟨#[45, 84, 45]⟩ : ByteArray), .string (⟨#[45, 45, 45]⟩ : ByteArray), .string (⟨#[82, 82, 45]⟩ : ByteArray), .string (⟨#[82, 82, 45]⟩ : ByteArray), .string (⟨#[82, 82, 45]⟩ : ByteArray), .string (⟨#[45, 45, 45]⟩ : ByteArray)]) (ok := fun _ => True) (okp := fun _ => True) ?hr ?hp (fun _ hk => hk) trivial (Below.refl _ _) (Nat.le_refl _) (by simp) ?_; (case hd => rfl); (case hg => rfl); (case hr => exact gs); (case hp => exact (Reps.one (show Kd.M Kd.string _ _ _ (⟨#[45, 45, 45]⟩ : ByteArray) [.string (⟨#[45, 45, 45]⟩ : ByteArray)] from rfl) (Reps.one (show Kd.M Kd.string _ _ _ (⟨#[82, 87, 45]⟩ : ByteArray) [.string (⟨#[82, 87, 45]⟩ : ByteArray)] from rfl) (Reps.one (show Kd.M Kd.string _ _ _ (⟨#[82, 82, 45]⟩ : ByteArray) [.string (⟨#[82, 82, 45]⟩ : ByteArray)] from rfl) (Reps.one (show Kd.M Kd.string _ _ _ (⟨#[82, 82, 82]⟩ : ByteArray) [.string (⟨#[82, 82, 82]⟩ : ByteArray)] from rfl) (Reps.one (show Kd.M Kd.string _ _ _ (⟨#[82, 82, 82]⟩ : ByteArray) [.string (⟨#[82, 82, 82]⟩ : ByteArray)] from rfl) (Reps.one (show Kd.M Kd.string _ _ _ (⟨#[82, 82, 82]⟩ : ByteArray) [.string (⟨#[82, 82, 82]⟩ : ByteArray)] from rfl) (Reps.one (show Kd.M Kd.string _ _ _ (⟨#[82, 82, 82]⟩ : ByteArray) [.string (⟨#[82, 82, 82]⟩ : ByteArray)] from rfl) (Reps.one (show Kd.M Kd.string _ _ _ (⟨#[82, 82, 82]⟩ : ByteArray) [.string (⟨#[82, 82, 82]⟩ : ByteArray)] from rfl) (Reps.one (show Kd.M Kd.string _ _ _ (⟨#[82, 45, 45]⟩ : ByteArray) [.string (⟨#[82, 45, 45]⟩ : ByteArray)] from rfl) (Reps.one (show Kd.M Kd.string _ _ _ (⟨#[82, 82, 82]⟩ : ByteArray) [.string (⟨#[82, 82, 82]⟩ : ByteArray)] from rfl) (Reps.one (show Kd.M Kd.string _ _ _ (⟨#[82, 84, 45]⟩ : ByteArray) [.string (⟨#[82, 84, 45]⟩ : ByteArray)] from rfl) (Reps.one (show Kd.M Kd.string _ _ _ (⟨#[45, 84, 45]⟩ : ByteArray) [.string (⟨#[45, 84, 45]⟩ : ByteArray)] from rfl) (Reps.one (show Kd.M Kd.string _ _ _ (⟨#[45, 45, 45]⟩ : ByteArray) [.string (⟨#[45, 45, 45]⟩ : ByteArray)] from rfl) (Reps.one (show Kd.M Kd.string _ _ _ (⟨#[82, 82, 45]⟩ : ByteArray) [.string (⟨#[82, 82, 45]⟩ : ByteArray)] from rfl) (Reps.one (show Kd.M Kd.string _ _ _ (⟨#[82, 82, 45]⟩ : ByteArray) [.string (⟨#[82, 82, 45]⟩ : ByteArray)] from rfl) (Reps.one (show Kd.M Kd.string _ _ _ (⟨#[82, 82, 45]⟩ : ByteArray) [.string (⟨#[82, 82, 45]⟩ : ByteArray)] from rfl) (Reps.one (show Kd.M Kd.string _ _ _ (⟨#[45, 45, 45]⟩ : ByteArray) [.string (⟨#[45, 45, 45]⟩ : ByteArray)] from rfl) (Reps.none _ _))))))))))))))))))); intro v13 w6 ho7 hb hg_ hnew_; clear hg_ hnew_; (first | rw [← Ny12.out] at ho7 | (simp only [Int.reduceToNat] at ho7; rw [← Ny12.out] at ho7)); have HO14 := Aside0.mk (Kd.R_lower ho7 (below_size bels)); replace HB := hbs hb; clear hb ho7; obtain ⟨Ao8, co8, eo8⟩ := Kd.R_slice HO14.out; subst eo8; have p15 : 0 ≤ (a0 : Int) := pq0; have q15 : a0 < (y12.length : Int) := pq0; obtain ⟨ad15, e15, hx15_0⟩ := Kd.at_string (Kd.R_reads' HO14.out).2.2 a0 p15 q15; cases e15; replace p15 := eq_true p15; replace q15 := eq_true q15))
  go_ret
  exact ⟨rfe, bels⟩
 ·replace c3 := Bool.eq_false_iff.mpr c3; subst c3; rw [if_neg (by decide)] at H; obtain rfl := oI H
  go_enter Tryz.func142, Tryz.ntmps142
  go_wp2_with (first | (refine gL 70 (some 4) Tryz.func70 #[.int .i64 a0, .int .i64 0, .int .i64 16] ?_; (with_reducible refine (impl_within.calls a0 0 16 false _ A2.out).mono ?_); rintro e w' ⟨rfl, ⟨nd, rfl⟩⟩; refine ⟨_, rfl, ?_⟩))
  go_ret
  exact ⟨rfe, bels⟩

/-! ### impl_isReg: function 170 -/
def impl_isReg.f (a0 : Int) : Option (Bool) := (impl_within.f a0 0 3).bind fun t11 => (some t11)
set_option maxHeartbeats 8000000 in
set_option maxRecDepth 100000 in
theorem impl_isReg.calls (a0 : Int) (r : Bool) (w : World) (h : impl_isReg.f a0 = some r) :
  Calls Tryz.prog 170 #[.int .i64 a0] w fun e w' => e = .returned (.bool r) ∧ Drawn0 w w' := by
 have H : ((impl_within.f a0 0 3).bind fun t11 => (some t11)) = some r := h
 clear h; obtain ⟨t11, A2, H⟩ := bnd H; (try dsimp only at H); obtain rfl := oI H
 go_enter Tryz.func170, Tryz.ntmps170
 go_wp2_with (first | (refine gL 70 (some 4) Tryz.func70 #[.int .i64 a0, .int .i64 0, .int .i64 3] ?_; (with_reducible refine (impl_within.calls a0 0 3 t11 _ A2.out).mono ?_); rintro e w' ⟨rfl, ⟨nd, rfl⟩⟩; refine ⟨_, rfl, ?_⟩))
 go_ret
 exact ⟨by first | rfl | (simp; done) | (simp [*]; done), by repeat (first | exact Drawn0.refl _ | apply Drawn0.step)⟩

/-! ### impl_isField: function 143 -/
def impl_isField.f (a0 : Int) (a1 : Int) (a2 : Int) : Option (Bool) := if a0 = 82 then ((impl_isReg.f a1).bind fun t11 => (some t11)) else (if a0 = 87 then ((impl_IsWord.f a1).bind fun t12 => (some t12)) else (if a0 = 84 then ((impl_within.f a1 0 a2).bind fun t13 => (some t13)) else (some (a1 == 0))))
set_option maxHeartbeats 8000000 in
set_option maxRecDepth 100000 in
theorem impl_isField.calls (a0 : Int) (a1 : Int) (a2 : Int) (r : Bool) (w : World) (h : impl_isField.f a0 a1 a2 = some r) :
  Calls Tryz.prog 143 #[.int .u8 a0, .int .i64 a1, .int .i64 a2] w fun e w' => e = .returned (.bool r) ∧ Drawn0 w w' := by
 have H : (if a0 = 82 then ((impl_isReg.f a1).bind fun t11 => (some t11)) else (if a0 = 87 then ((impl_IsWord.f a1).bind fun t12 => (some t12)) else (if a0 = 84 then ((impl_within.f a1 0 a2).bind fun t13 => (some t13)) else (some (a1 == 0))))) = some r := h
 clear h
 by_cases c4 : a0 = 82
 ·rw [if_pos c4] at H
  have c4b0 : (a0 == 82) = true := beq_iff_eq.mpr c4
  have c4b1 : (a0 != 82) = false := bne_eq_false_iff_eq.mpr c4
  clear c4; obtain ⟨t11, A5, H⟩ := bnd H; (try dsimp only at H); obtain rfl := oI H
  go_enter Tryz.func143, Tryz.ntmps143
  go_wp2_with (first | (refine gL 170 (some 11) Tryz.func170 #[.int .i64 a1] ?_; (with_reducible refine (impl_isReg.calls a1 t11 _ A5.out).mono ?_); rintro e w' ⟨rfl, ⟨nd, rfl⟩⟩; refine ⟨_, rfl, ?_⟩))
  go_ret
  exact ⟨by first | rfl | (simp; done) | (simp [*]; done), by repeat (first | exact Drawn0.refl _ | apply Drawn0.step)⟩
 ·rw [if_neg c4] at H
  have c4b0 : (a0 == 82) = false := beq_eq_false_iff_ne.mpr c4
  have c4b1 : (a0 != 82) = true := bne_iff_ne.mpr c4
  by_cases c6 : a0 = 87
  ·rw [if_pos c6] at H
   have c6b0 : (a0 == 87) = true := beq_iff_eq.mpr c6
   have c6b1 : (a0 != 87) = false := bne_eq_false_iff_eq.mpr c6
   clear c6; obtain ⟨t12, A7, H⟩ := bnd H; (try dsimp only at H); obtain rfl := oI H
   go_enter Tryz.func143, Tryz.ntmps143
   go_wp2_with (first | (refine gL 91 (some 15) Tryz.func91 #[.int .i64 a1] ?_; (with_reducible refine (impl_IsWord.calls a1 t12 _ A7.out).mono ?_); rintro e w' ⟨rfl, ⟨nd, rfl⟩⟩; refine ⟨_, rfl, ?_⟩))
   go_ret
   exact ⟨by first | rfl | (simp; done) | (simp [*]; done), by repeat (first | exact Drawn0.refl _ | apply Drawn0.step)⟩
  ·rw [if_neg c6] at H
   have c6b0 : (a0 == 87) = false := beq_eq_false_iff_ne.mpr c6
   have c6b1 : (a0 != 87) = true := bne_iff_ne.mpr c6
   by_cases c8 : a0 = 84
   ·rw [if_pos c8] at H
    have c8b0 : (a0 == 84) = true := beq_iff_eq.mpr c8
    have c8b1 : (a0 != 84) = false := bne_eq_false_iff_eq.mpr c8
    clear c8; obtain ⟨t13, A9, H⟩ := bnd H; (try dsimp only at H); obtain rfl := oI H
    go_enter Tryz.func143, Tryz.ntmps143
    go_wp2_with (first | (refine gL 70 (some 20) Tryz.func70 #[.int .i64 a1, .int .i64 0, .int .i64 a2] ?_; (with_reducible refine (impl_within.calls a1 0 a2 t13 _ A9.out).mono ?_); rintro e w' ⟨rfl, ⟨nd, rfl⟩⟩; refine ⟨_, rfl, ?_⟩))
    go_ret
    exact ⟨by first | rfl | (simp; done) | (simp [*]; done), by repeat (first | exact Drawn0.refl _ | apply Drawn0.step)⟩
   ·rw [if_neg c8] at H
    have c8b0 : (a0 == 84) = false := beq_eq_false_iff_ne.mpr c8
    have c8b1 : (a0 != 84) = true := bne_iff_ne.mpr c8
    obtain rfl := oI H
    go_enter Tryz.func143, Tryz.ntmps143
    go_wp2
    go_ret
    exact ⟨by first | rfl | (simp; done) | (simp [*]; done), by repeat (first | exact Drawn0.refl _ | apply Drawn0.step)⟩

/-! ### impl_InsOk: function 110 -/
def impl_InsOk.f (a0_0 : Int) (a0_1 : Int) (a0_2 : Int) (a0_3 : Int) (a1 : Int) : Option (Bool) := (impl_formOf.f a0_0).bind fun t12 => (if t12.toList = ([] : List UInt8) then (some false) else ((impl_within.f a1 0 32).bind fun t13 => (if t13 = true then (if 0 < (t12.size : Int) then ((impl_isField.f (bt t12 0) a0_1 a1).bind fun t14 => (if t14 = true then (if 1 < (t12.size : Int) then ((impl_isField.f (bt t12 1) a0_2 a1).bind fun t15 => (if t15 = true then (if 2 < (t12.size : Int) then ((impl_isField.f (bt t12 2) a0_3 a1).bind fun t16 => (some t16)) else (none)) else (some false))) else (none)) else (some false))) else (none)) else (some false))))
def impl_InsOk.T2 : Bool × List (List Nat × List Nat) := (true, [([], []), ([0], [0]), ([1], [1]), ([2], [2]), ([3, 2, 2], [2, 3]), ([2, 4], [2, 4]), ([5, 4], [5]), ([6], [6]), ([7, 6], [6, 7]), ([6], [6]), ([9, 6], [6, 9]), ([6], [6]), ([8, 10, 11, 6, 6], [6, 8, 10, 11]), ([6, 12], [6, 12]), ([13, 12], [13]), ([14], [14]), ([15, 14], [14, 15]), ([14], [14]), ([17, 14], [14, 17]), ([14], [14]), ([16, 18, 19, 14, 14], [14, 16, 18, 19]), ([14, 20], [14, 20]), ([21, 20], [21]), ([22], [22]), ([23, 22], [22, 23]), ([22], [22]), ([25, 22], [22, 25]), ([22], [22]), ([24, 26, 27, 22, 22], [22, 24, 26, 27]), ([22, 28], [22, 28]), ([29, 28, 0, 1, 2, 3, 4, 5, 6, 7, 8, 9, 10, 11, 12, 13, 14, 15, 16, 17, 18, 19, 20, 21, 22, 23, 24, 25, 26, 27, 28, 29], [29])])
def impl_InsOk.B2 : List Nat := [0, 1, 3, 7, 15, 31, 63, 127, 255, 127, 639, 127, 4095, 8191, 16383, 32767, 65535, 32767, 163839, 32767, 1048575, 2097151, 4194303, 8388607, 16777215, 8388607, 41943039, 8388607, 268435455, 536870911, 1073741823]
theorem impl_InsOk.tab2 : rtab .any (opsOf Tryz.f110 2) = impl_InsOk.T2 := by kernel_rfl
theorem impl_InsOk.bits2 : waitsOk impl_InsOk.T2.2 impl_InsOk.B2 = true := by kernel_rfl
set_option maxHeartbeats 8000000 in
set_option maxRecDepth 100000 in
theorem impl_InsOk.calls (a0_0 : Int) (a0_1 : Int) (a0_2 : Int) (a0_3 : Int) (a1 : Int) (r : Bool) (w : World) (h : impl_InsOk.f a0_0 a0_1 a0_2 a0_3 a1 = some r) :
  Calls Tryz.prog 110 #[.agg #[.int .i64 a0_0, .int .i64 a0_1, .int .i64 a0_2, .int .i64 a0_3], .int .i64 a1] w fun e w' => e = .returned (.bool r) ∧ Below w.heap.size w w' := by
 have hu95 := Tryz.underlying95; have HB := Aside0.mk (Below.refl w.heap.size w)
 have H : ((impl_formOf.f a0_0).bind fun t12 => (if t12.toList = ([] : List UInt8) then (some false) else ((impl_within.f a1 0 32).bind fun t13 => (if t13 = true then (if 0 < (t12.size : Int) then ((impl_isField.f (bt t12 0) a0_1 a1).bind fun t14 => (if t14 = true then (if 1 < (t12.size : Int) then ((impl_isField.f (bt t12 1) a0_2 a1).bind fun t15 => (if t15 = true then (if 2 < (t12.size : Int) then ((impl_isField.f (bt t12 2) a0_3 a1).bind fun t16 => (some t16)) else (none)) else (some false))) else (none)) else (some false))) else (none)) else (some false))))) = some r := h
 clear h; obtain ⟨t12, A3, H⟩ := bnd H; (try dsimp only at H)
 by_cases c4 : t12.toList = ([] : List UInt8)
 ·rw [if_pos c4] at H
  have c4b0 : (t12.toList == ([] : List UInt8)) = true := beq_iff_eq.mpr c4
  have c4b1 : (t12.toList != ([] : List UInt8)) = false := bne_eq_false_iff_eq.mpr c4
  clear c4; obtain rfl := oI H
  go_enter Tryz.func110, Tryz.ntmps110
  try go_wp2_with (first | (refine bxe 2 #[.int .i64 a0_0, .int .i64 a0_1, .int .i64 a0_2, .int .i64 a0_3] 95 ?_; intro gb11 hg w5 hbox hb; have BK11 := Aside0.mk (hbox); have GW11 := Aside0.mk (gwe hg : w.heap.size ≤ _); have GE11 := GW11; replace HB := hbs hb; clear hb hbox hg; obtain ⟨_, _, _, _, _, _, _, _⟩ := box4 BK11) | (refine gL 142 (some 8) Tryz.func142 #[.int .i64 a0_0] ?_; (with_reducible refine (impl_formOf.calls a0_0 t12 _ A3.out).mono ?_); rintro e w7 ⟨rfl, hb⟩; refine ⟨_, rfl, ?_⟩; replace BK11 := kb BK11 hb; replace HB := hbs hb; clear hb))
  replace BK11 := Aside0.mk (blk_drew BK11.out); replace HB := Aside0.mk (below_drew1 HB.out)
  refine start_ (n := 31) (S := fun w' => True) (ds := []) _ (by kernel_rfl) rfl rfl trivial (fun hHeld => ?_); refine with_tabW impl_InsOk.tab2 impl_InsOk.bits2 (fun HT_ HW_ => ?_)
  generalize w7.drew = w8 at BK11 HB hHeld ⊢; refine wp 0 3 ?_
  refine wu 3 5 ?_
  refine wp 5 7 ?_
  refine wu 7 13 ?_
  refine wp 13 15 ?_
  refine wu 15 21 ?_
  refine wp 21 23 ?_
  refine wu 23 29 ?_
  refine wp 29 31 ?_
  refine done_ (done_of HT_.out (by kernel_rfl)) ?_
  try go_wp2
  go_ret
  exact ⟨rfe, bels⟩
 ·rw [if_neg c4] at H
  have c4b0 : (t12.toList == ([] : List UInt8)) = false := beq_eq_false_iff_ne.mpr c4
  have c4b1 : (t12.toList != ([] : List UInt8)) = true := bne_iff_ne.mpr c4
  obtain ⟨t13, A9, H⟩ := bnd H; (try dsimp only at H)
  by_cases c10 : t13 = true
  ·subst c10; rw [if_pos rfl] at H
   obtain ⟨c11, H⟩ := ifS H
   have c11b0 := decide_eq_true c11
   have c11b1 : decide (0 < t12.size) = true := decide_eq_true (by omega)
   clear c11; obtain ⟨t14, A13, H⟩ := bnd H; (try dsimp only at H)
   by_cases c14 : t14 = true
   ·subst c14; rw [if_pos rfl] at H
    obtain ⟨c15, H⟩ := ifS H
    have c15b0 := decide_eq_true c15
    have c15b1 : decide (1 < t12.size) = true := decide_eq_true (by omega)
    clear c15; obtain ⟨t15, A17, H⟩ := bnd H; (try dsimp only at H)
    by_cases c18 : t15 = true
    ·subst c18; rw [if_pos rfl] at H
     obtain ⟨c19, H⟩ := ifS H
     have c19b0 := decide_eq_true c19
     have c19b1 : decide (2 < t12.size) = true := decide_eq_true (by omega)
     clear c19; obtain ⟨t16, A21, H⟩ := bnd H; (try dsimp only at H); obtain rfl := oI H
     go_enter Tryz.func110, Tryz.ntmps110
     try go_wp2_with (first | (refine bxe 2 #[.int .i64 a0_0, .int .i64 a0_1, .int .i64 a0_2, .int .i64 a0_3] 95 ?_; intro gb11 hg w22 hbox hb; have BK11 := Aside0.mk (hbox); have GW11 := Aside0.mk (gwe hg : w.heap.size ≤ _); have GE11 := GW11; replace HB := hbs hb; clear hb hbox hg; obtain ⟨_, _, _, _, _, _, _, _⟩ := box4 BK11) | (refine gL 142 (some 8) Tryz.func142 #[.int .i64 a0_0] ?_; (with_reducible refine (impl_formOf.calls a0_0 t12 _ A3.out).mono ?_); rintro e w24 ⟨rfl, hb⟩; refine ⟨_, rfl, ?_⟩; replace BK11 := kb BK11 hb; replace HB := hbs hb; clear hb))
     replace BK11 := Aside0.mk (blk_drew BK11.out); replace HB := Aside0.mk (below_drew1 HB.out)
     refine start_ (n := 31) (S := fun w' => w'.cell? ⟨gb11, 0, none⟩ = some (.int .i64 a0_0) ∧ w'.cell? ⟨gb11, 1, none⟩ = some (.int .i64 a0_1) ∧ w'.cell? ⟨gb11, 2, none⟩ = some (.int .i64 a0_2) ∧ w'.cell? ⟨gb11, 3, none⟩ = some (.int .i64 a0_3)) (ds := []) _ (by kernel_rfl) rfl rfl ⟨bz BK11 0, bz BK11 1, bz BK11 2, bz BK11 3⟩ (fun hHeld => ?_); refine with_tabW impl_InsOk.tab2 impl_InsOk.bits2 (fun HT_ HW_ => ?_)
     generalize w24.drew = w25 at BK11 HB hHeld ⊢; refine wp 0 4 ?_; refine om 4 13 (fun K hK => ?_); refine goes_ Tryz.func70 (by kernel_rfl) rfl #[.int .i64 a1, .int .i64 0, .int .i64 32] (by rfl) rfl rfl slq ?_; (with_reducible refine (impl_within.calls a1 0 32 true _ A9.out).mono ?_); rintro e w' ⟨rfl, ⟨nd, rfl⟩⟩; refine ⟨_, rfl, ?_⟩
     have p12 : 0 ≤ (0 : Int) := (by omega)
     have q12 : 0 < t12.size := (by have : (0 : Int) < (t12.size : Int) := pq0; omega)
     have hx12 : ∀ h : 0 < t12.size, ((t12[0]'h).toNat : Int) = bt t12 0 := bt_at t12 0
     clear p12
     have qi12 : (0 < (t12.size : Int)) = True := eq_true (pq0)
     replace q12 := eq_true q12; refine hK.out _ _ hd (fun hHeld => ?_); clear hK K; refine nm 13 ?_; refine pm 5 14 ?_; refine pm 6 15 ?_; refine pm 7 16 ?_; refine pm 9 18 ?_; refine pm 11 20 ?_; refine tm4 8 17 ?_; refine tm4 10 19 ?_; refine om 12 21 (fun K hK => ?_); refine goes_ Tryz.func143 (by kernel_rfl) rfl #[.int .u8 (bt t12 0), .int .i64 a0_1, .int .i64 a1] (by rfl) rfl rfl slq ?_; (with_reducible refine (impl_isField.calls (bt t12 0) a0_1 a1 true _ A13.out).mono ?_); rintro e w' ⟨rfl, ⟨nd, rfl⟩⟩; refine ⟨_, rfl, ?_⟩
     have p16 : 0 ≤ (1 : Int) := (by omega)
     have q16 : 1 < t12.size := (by have : (1 : Int) < (t12.size : Int) := pq0; omega)
     have hx16 : ∀ h : 1 < t12.size, ((t12[1]'h).toNat : Int) = bt t12 1 := bt_at t12 1
     clear p16
     have qi16 : (1 < (t12.size : Int)) = True := eq_true (pq0)
     replace q16 := eq_true q16; refine hK.out _ _ hd (fun hHeld => ?_); clear hK K; refine nm 21 ?_; refine pm 13 22 ?_; refine pm 14 23 ?_; refine pm 15 24 ?_; refine pm 17 26 ?_; refine pm 19 28 ?_; refine tm4 16 25 ?_; refine tm4 18 27 ?_; refine om 20 29 (fun K hK => ?_); refine goes_ Tryz.func143 (by kernel_rfl) rfl #[.int .u8 (bt t12 1), .int .i64 a0_2, .int .i64 a1] (by rfl) rfl rfl slq ?_; (with_reducible refine (impl_isField.calls (bt t12 1) a0_2 a1 true _ A17.out).mono ?_); rintro e w' ⟨rfl, ⟨nd, rfl⟩⟩; refine ⟨_, rfl, ?_⟩
     have p20 : 0 ≤ (2 : Int) := (by omega)
     have q20 : 2 < t12.size := (by have : (2 : Int) < (t12.size : Int) := pq0; omega)
     have hx20 : ∀ h : 2 < t12.size, ((t12[2]'h).toNat : Int) = bt t12 2 := bt_at t12 2
     clear p20
     have qi20 : (2 < (t12.size : Int)) = True := eq_true (pq0)
     replace q20 := eq_true q20; refine hK.out _ _ hd (fun hHeld => ?_); clear hK K; refine nm 29 ?_; refine pm 21 30 ?_; refine pm 22 31 ?_; refine pm 23 32 ?_; refine pm 25 34 ?_; refine pm 27 36 ?_; refine tm4 24 33 ?_; refine tm4 26 35 ?_; refine om 28 37 (fun K hK => ?_); refine goes_ Tryz.func143 (by kernel_rfl) rfl #[.int .u8 (bt t12 2), .int .i64 a0_3, .int .i64 a1] (by rfl) rfl rfl slq ?_; (with_reducible refine (impl_isField.calls (bt t12 2) a0_3 a1 t16 _ A21.out).mono ?_); rintro e w' ⟨rfl, ⟨nd, rfl⟩⟩; refine ⟨_, rfl, ?_⟩; refine hK.out _ _ hd (fun hHeld => ?_); clear hK K; refine nm 37 ?_; refine wp 29 31 ?_
     refine done_ (done_of HT_.out (by kernel_rfl)) ?_
     try go_wp2
     go_ret
     exact ⟨rfe, bels⟩
    ·replace c18 := Bool.eq_false_iff.mpr c18; subst c18; rw [if_neg (by decide)] at H; obtain rfl := oI H
     go_enter Tryz.func110, Tryz.ntmps110
     try go_wp2_with (first | (refine bxe 2 #[.int .i64 a0_0, .int .i64 a0_1, .int .i64 a0_2, .int .i64 a0_3] 95 ?_; intro gb11 hg w26 hbox hb; have BK11 := Aside0.mk (hbox); have GW11 := Aside0.mk (gwe hg : w.heap.size ≤ _); have GE11 := GW11; replace HB := hbs hb; clear hb hbox hg; obtain ⟨_, _, _, _, _, _, _, _⟩ := box4 BK11) | (refine gL 142 (some 8) Tryz.func142 #[.int .i64 a0_0] ?_; (with_reducible refine (impl_formOf.calls a0_0 t12 _ A3.out).mono ?_); rintro e w28 ⟨rfl, hb⟩; refine ⟨_, rfl, ?_⟩; replace BK11 := kb BK11 hb; replace HB := hbs hb; clear hb))
     replace BK11 := Aside0.mk (blk_drew BK11.out); replace HB := Aside0.mk (below_drew1 HB.out)
     refine start_ (n := 31) (S := fun w' => w'.cell? ⟨gb11, 0, none⟩ = some (.int .i64 a0_0) ∧ w'.cell? ⟨gb11, 1, none⟩ = some (.int .i64 a0_1) ∧ w'.cell? ⟨gb11, 2, none⟩ = some (.int .i64 a0_2) ∧ w'.cell? ⟨gb11, 3, none⟩ = some (.int .i64 a0_3)) (ds := []) _ (by kernel_rfl) rfl rfl ⟨bz BK11 0, bz BK11 1, bz BK11 2, bz BK11 3⟩ (fun hHeld => ?_); refine with_tabW impl_InsOk.tab2 impl_InsOk.bits2 (fun HT_ HW_ => ?_)
     generalize w28.drew = w29 at BK11 HB hHeld ⊢; refine wp 0 4 ?_; refine om 4 13 (fun K hK => ?_); refine goes_ Tryz.func70 (by kernel_rfl) rfl #[.int .i64 a1, .int .i64 0, .int .i64 32] (by rfl) rfl rfl slq ?_; (with_reducible refine (impl_within.calls a1 0 32 true _ A9.out).mono ?_); rintro e w' ⟨rfl, ⟨nd, rfl⟩⟩; refine ⟨_, rfl, ?_⟩
     have p12 : 0 ≤ (0 : Int) := (by omega)
     have q12 : 0 < t12.size := (by have : (0 : Int) < (t12.size : Int) := pq0; omega)
     have hx12 : ∀ h : 0 < t12.size, ((t12[0]'h).toNat : Int) = bt t12 0 := bt_at t12 0
     clear p12
     have qi12 : (0 < (t12.size : Int)) = True := eq_true (pq0)
     replace q12 := eq_true q12; refine hK.out _ _ hd (fun hHeld => ?_); clear hK K; refine nm 13 ?_; refine pm 5 14 ?_; refine pm 6 15 ?_; refine pm 7 16 ?_; refine pm 9 18 ?_; refine pm 11 20 ?_; refine tm4 8 17 ?_; refine tm4 10 19 ?_; refine om 12 21 (fun K hK => ?_); refine goes_ Tryz.func143 (by kernel_rfl) rfl #[.int .u8 (bt t12 0), .int .i64 a0_1, .int .i64 a1] (by rfl) rfl rfl slq ?_; (with_reducible refine (impl_isField.calls (bt t12 0) a0_1 a1 true _ A13.out).mono ?_); rintro e w' ⟨rfl, ⟨nd, rfl⟩⟩; refine ⟨_, rfl, ?_⟩
     have p16 : 0 ≤ (1 : Int) := (by omega)
     have q16 : 1 < t12.size := (by have : (1 : Int) < (t12.size : Int) := pq0; omega)
     have hx16 : ∀ h : 1 < t12.size, ((t12[1]'h).toNat : Int) = bt t12 1 := bt_at t12 1
     clear p16
     have qi16 : (1 < (t12.size : Int)) = True := eq_true (pq0)
     replace q16 := eq_true q16; refine hK.out _ _ hd (fun hHeld => ?_); clear hK K; refine nm 21 ?_; refine pm 13 22 ?_; refine pm 14 23 ?_; refine pm 15 24 ?_; refine pm 17 26 ?_; refine pm 19 28 ?_; refine tm4 16 25 ?_; refine tm4 18 27 ?_; refine om 20 29 (fun K hK => ?_); refine goes_ Tryz.func143 (by kernel_rfl) rfl #[.int .u8 (bt t12 1), .int .i64 a0_2, .int .i64 a1] (by rfl) rfl rfl slq ?_; (with_reducible refine (impl_isField.calls (bt t12 1) a0_2 a1 false _ A17.out).mono ?_); rintro e w' ⟨rfl, ⟨nd, rfl⟩⟩; refine ⟨_, rfl, ?_⟩; refine hK.out _ _ hd (fun hHeld => ?_); clear hK K; refine nm 29 ?_; refine wp 21 23 ?_
     refine wu 23 29 ?_
     refine wp 29 31 ?_
     refine done_ (done_of HT_.out (by kernel_rfl)) ?_
     try go_wp2
     go_ret
     exact ⟨rfe, bels⟩
   ·replace c14 := Bool.eq_false_iff.mpr c14; subst c14; rw [if_neg (by decide)] at H; obtain rfl := oI H
    go_enter Tryz.func110, Tryz.ntmps110
    try go_wp2_with (first | (refine bxe 2 #[.int .i64 a0_0, .int .i64 a0_1, .int .i64 a0_2, .int .i64 a0_3] 95 ?_; intro gb11 hg w30 hbox hb; have BK11 := Aside0.mk (hbox); have GW11 := Aside0.mk (gwe hg : w.heap.size ≤ _); have GE11 := GW11; replace HB := hbs hb; clear hb hbox hg; obtain ⟨_, _, _, _, _, _, _, _⟩ := box4 BK11) | (refine gL 142 (some 8) Tryz.func142 #[.int .i64 a0_0] ?_; (with_reducible refine (impl_formOf.calls a0_0 t12 _ A3.out).mono ?_); rintro e w32 ⟨rfl, hb⟩; refine ⟨_, rfl, ?_⟩; replace BK11 := kb BK11 hb; replace HB := hbs hb; clear hb))
    replace BK11 := Aside0.mk (blk_drew BK11.out); replace HB := Aside0.mk (below_drew1 HB.out)
    refine start_ (n := 31) (S := fun w' => w'.cell? ⟨gb11, 0, none⟩ = some (.int .i64 a0_0) ∧ w'.cell? ⟨gb11, 1, none⟩ = some (.int .i64 a0_1) ∧ w'.cell? ⟨gb11, 2, none⟩ = some (.int .i64 a0_2) ∧ w'.cell? ⟨gb11, 3, none⟩ = some (.int .i64 a0_3)) (ds := []) _ (by kernel_rfl) rfl rfl ⟨bz BK11 0, bz BK11 1, bz BK11 2, bz BK11 3⟩ (fun hHeld => ?_); refine with_tabW impl_InsOk.tab2 impl_InsOk.bits2 (fun HT_ HW_ => ?_)
    generalize w32.drew = w33 at BK11 HB hHeld ⊢; refine wp 0 4 ?_; refine om 4 13 (fun K hK => ?_); refine goes_ Tryz.func70 (by kernel_rfl) rfl #[.int .i64 a1, .int .i64 0, .int .i64 32] (by rfl) rfl rfl slq ?_; (with_reducible refine (impl_within.calls a1 0 32 true _ A9.out).mono ?_); rintro e w' ⟨rfl, ⟨nd, rfl⟩⟩; refine ⟨_, rfl, ?_⟩
    have p12 : 0 ≤ (0 : Int) := (by omega)
    have q12 : 0 < t12.size := (by have : (0 : Int) < (t12.size : Int) := pq0; omega)
    have hx12 : ∀ h : 0 < t12.size, ((t12[0]'h).toNat : Int) = bt t12 0 := bt_at t12 0
    clear p12
    have qi12 : (0 < (t12.size : Int)) = True := eq_true (pq0)
    replace q12 := eq_true q12; refine hK.out _ _ hd (fun hHeld => ?_); clear hK K; refine nm 13 ?_; refine pm 5 14 ?_; refine pm 6 15 ?_; refine pm 7 16 ?_; refine pm 9 18 ?_; refine pm 11 20 ?_; refine tm4 8 17 ?_; refine tm4 10 19 ?_; refine om 12 21 (fun K hK => ?_); refine goes_ Tryz.func143 (by kernel_rfl) rfl #[.int .u8 (bt t12 0), .int .i64 a0_1, .int .i64 a1] (by rfl) rfl rfl slq ?_; (with_reducible refine (impl_isField.calls (bt t12 0) a0_1 a1 false _ A13.out).mono ?_); rintro e w' ⟨rfl, ⟨nd, rfl⟩⟩; refine ⟨_, rfl, ?_⟩; refine hK.out _ _ hd (fun hHeld => ?_); clear hK K; refine nm 21 ?_; refine wp 13 15 ?_
    refine wu 15 21 ?_
    refine wp 21 23 ?_
    refine wu 23 29 ?_
    refine wp 29 31 ?_
    refine done_ (done_of HT_.out (by kernel_rfl)) ?_
    try go_wp2
    go_ret
    exact ⟨rfe, bels⟩
  ·replace c10 := Bool.eq_false_iff.mpr c10; subst c10; rw [if_neg (by decide)] at H; obtain rfl := oI H
   go_enter Tryz.func110, Tryz.ntmps110
   try go_wp2_with (first | (refine bxe 2 #[.int .i64 a0_0, .int .i64 a0_1, .int .i64 a0_2, .int .i64 a0_3] 95 ?_; intro gb11 hg w34 hbox hb; have BK11 := Aside0.mk (hbox); have GW11 := Aside0.mk (gwe hg : w.heap.size ≤ _); have GE11 := GW11; replace HB := hbs hb; clear hb hbox hg; obtain ⟨_, _, _, _, _, _, _, _⟩ := box4 BK11) | (refine gL 142 (some 8) Tryz.func142 #[.int .i64 a0_0] ?_; (with_reducible refine (impl_formOf.calls a0_0 t12 _ A3.out).mono ?_); rintro e w36 ⟨rfl, hb⟩; refine ⟨_, rfl, ?_⟩; replace BK11 := kb BK11 hb; replace HB := hbs hb; clear hb))
   replace BK11 := Aside0.mk (blk_drew BK11.out); replace HB := Aside0.mk (below_drew1 HB.out)
   refine start_ (n := 31) (S := fun w' => True) (ds := []) _ (by kernel_rfl) rfl rfl trivial (fun hHeld => ?_); refine with_tabW impl_InsOk.tab2 impl_InsOk.bits2 (fun HT_ HW_ => ?_)
   generalize w36.drew = w37 at BK11 HB hHeld ⊢; refine wp 0 4 ?_; refine om 4 13 (fun K hK => ?_); refine goes_ Tryz.func70 (by kernel_rfl) rfl #[.int .i64 a1, .int .i64 0, .int .i64 32] (by rfl) rfl rfl slq ?_; (with_reducible refine (impl_within.calls a1 0 32 false _ A9.out).mono ?_); rintro e w' ⟨rfl, ⟨nd, rfl⟩⟩; refine ⟨_, rfl, ?_⟩; refine hK.out _ _ trivial (fun hHeld => ?_); clear hK K; refine nm 13 ?_; refine wp 5 7 ?_
   refine wu 7 13 ?_
   refine wp 13 15 ?_
   refine wu 15 21 ?_
   refine wp 21 23 ?_
   refine wu 23 29 ?_
   refine wp 29 31 ?_
   refine done_ (done_of HT_.out (by kernel_rfl)) ?_
   try go_wp2
   go_ret
   exact ⟨rfe, bels⟩

end Go.Proofs.YtmnkbchieplicaaGreatDoor.Q
