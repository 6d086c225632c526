/- Contracts of functions of the program and of the laws, written by program out of the translation; conditions: as each theorem says. -/
import Derived.Test.YtmnkbchieplicaaGreatDoorKFnExactFormatBlock02
namespace Go.Proofs.YtmnkbchieplicaaGreatDoor.Q
open Go.RowKit Go.Proofs.YtmnkbchieplicaaGreatDoorW.PrintWords Go.Proofs.YtmnkbchieplicaaGreatDoorW.PrintLast Go.Proofs.YtmnkbchieplicaaGreatDoorW.PrintMore
attribute [local go_sem] max2_int min2_int max_two min_two max_three min_three max_four min_four   -- for this text's walks alone
set_option linter.unusedVariables false
set_option linter.unusedSimpArgs false

/-! ### laws_szInsS: function 23 -/
def laws_szInsS.f (l0 : List (S97)) (a1 : Int) : Option (Int) := if (wrap64 (a1 - (l0.length : Int))) < 0 then (some (-1)) else (some (wrap64 (a1 - (l0.length : Int))))
set_option maxHeartbeats 8000000 in
set_option maxRecDepth 100000 in
theorem laws_szInsS.calls (A0 : Option Addr) (c0 : Nat) (l0 : List (S97)) (a1 : Int) (r : Int) (w : World) (hr0 : Kd.C k97 w A0 l0.length l0) (hc0 : l0.length ≤ c0) (h : laws_szInsS.f l0 a1 = some r) :
  Calls Tryz.prog 23 #[.slice A0 l0.length c0, .int .i64 a1] w fun e w' => e = .returned (.int .i64 r) ∧ Drawn0 w w' := by
 have HR0 := Aside0.mk hr0; have HC0 := Aside0.mk hc0; clear hr0 hc0
 have H : (if (wrap64 (a1 - (l0.length : Int))) < 0 then (some (-1)) else (some (wrap64 (a1 - (l0.length : Int))))) = some r := h
 clear h
 by_cases c3 : (wrap64 (a1 - (l0.length : Int))) < 0
 ·rw [if_pos c3] at H
  have c3b0 := decide_eq_true c3
  clear c3; obtain rfl := oI H
  go_enter Tryz.func23, Tryz.ntmps23
  go_wp2
  go_ret
  exact ⟨by first | rfl | (simp; done) | (simp [*]; done), by repeat (first | exact Drawn0.refl _ | apply Drawn0.step)⟩
 ·rw [if_neg c3] at H
  have c3b0 := decide_eq_false c3
  clear c3; obtain rfl := oI H
  go_enter Tryz.func23, Tryz.ntmps23
  go_wp2
  go_ret
  exact ⟨by first | rfl | (simp; done) | (simp [*]; done), by repeat (first | exact Drawn0.refl _ | apply Drawn0.step)⟩

/-! ### laws_szIntS: function 25 -/
def laws_szIntS.f (l0 : List Int) (a1 : Int) : Option (Int) := if (wrap64 (a1 - (l0.length : Int))) < 0 then (some (-1)) else (some (wrap64 (a1 - (l0.length : Int))))
set_option maxHeartbeats 8000000 in
set_option maxRecDepth 100000 in
theorem laws_szIntS.calls (A0 : Option Addr) (c0 : Nat) (l0 : List Int) (a1 : Int) (r : Int) (w : World) (hr0 : Kd.C (Kd.int .i64) w A0 l0.length l0) (hc0 : l0.length ≤ c0) (h : laws_szIntS.f l0 a1 = some r) :
  Calls Tryz.prog 25 #[.slice A0 l0.length c0, .int .i64 a1] w fun e w' => e = .returned (.int .i64 r) ∧ Drawn0 w w' := by
 have HR0 := Aside0.mk hr0; have HC0 := Aside0.mk hc0; clear hr0 hc0
 have H : (if (wrap64 (a1 - (l0.length : Int))) < 0 then (some (-1)) else (some (wrap64 (a1 - (l0.length : Int))))) = some r := h
 clear h
 by_cases c3 : (wrap64 (a1 - (l0.length : Int))) < 0
 ·rw [if_pos c3] at H
  have c3b0 := decide_eq_true c3
  clear c3; obtain rfl := oI H
  go_enter Tryz.func25, Tryz.ntmps25
  go_wp2
  go_ret
  exact ⟨by first | rfl | (simp; done) | (simp [*]; done), by repeat (first | exact Drawn0.refl _ | apply Drawn0.step)⟩
 ·rw [if_neg c3] at H
  have c3b0 := decide_eq_false c3
  clear c3; obtain rfl := oI H
  go_enter Tryz.func25, Tryz.ntmps25
  go_wp2
  go_ret
  exact ⟨by first | rfl | (simp; done) | (simp [*]; done), by repeat (first | exact Drawn0.refl _ | apply Drawn0.step)⟩

/-! ### laws_szFrameS: function 99 -/
def laws_szFrameS.f (l0 : List (S155)) (a1 : Int) : Option (Int) := if (wrap64 (a1 - (l0.length : Int))) < 0 then (some (-1)) else (some (wrap64 (a1 - (l0.length : Int))))
set_option maxHeartbeats 8000000 in
set_option maxRecDepth 100000 in
theorem laws_szFrameS.calls (A0 : Option Addr) (c0 : Nat) (l0 : List (S155)) (a1 : Int) (r : Int) (w : World) (hr0 : Kd.C k155 w A0 l0.length l0) (hc0 : l0.length ≤ c0) (h : laws_szFrameS.f l0 a1 = some r) :
  Calls Tryz.prog 99 #[.slice A0 l0.length c0, .int .i64 a1] w fun e w' => e = .returned (.int .i64 r) ∧ Drawn0 w w' := by
 have HR0 := Aside0.mk hr0; have HC0 := Aside0.mk hc0; clear hr0 hc0
 have H : (if (wrap64 (a1 - (l0.length : Int))) < 0 then (some (-1)) else (some (wrap64 (a1 - (l0.length : Int))))) = some r := h
 clear h
 by_cases c3 : (wrap64 (a1 - (l0.length : Int))) < 0
 ·rw [if_pos c3] at H
  have c3b0 := decide_eq_true c3
  clear c3; obtain rfl := oI H
  go_enter Tryz.func99, Tryz.ntmps99
  go_wp2
  go_ret
  exact ⟨by first | rfl | (simp; done) | (simp [*]; done), by repeat (first | exact Drawn0.refl _ | apply Drawn0.step)⟩
 ·rw [if_neg c3] at H
  have c3b0 := decide_eq_false c3
  clear c3; obtain rfl := oI H
  go_enter Tryz.func99, Tryz.ntmps99
  go_wp2
  go_ret
  exact ⟨by first | rfl | (simp; done) | (simp [*]; done), by repeat (first | exact Drawn0.refl _ | apply Drawn0.step)⟩

/-! ### laws_szWarp: function 57 -/
def laws_szWarp.f (a0_0 : Int) (l0_1 : List (S155)) (l0_2 : List Int) (a1 : Int) : Option (Int) := (laws_szFrameS.f l0_1 a1).bind fun t12 => (if t12 < 0 then (some (-1)) else ((laws_szIntS.f l0_2 t12).bind fun t13 => (if t13 < 0 then (some (-1)) else (some t13))))
set_option maxHeartbeats 8000000 in
set_option maxRecDepth 100000 in
theorem laws_szWarp.calls (a0_0 : Int) (A0_1 : Option Addr) (c0_1 : Nat) (l0_1 : List (S155)) (A0_2 : Option Addr) (c0_2 : Nat) (l0_2 : List Int) (a1 : Int) (r : Int) (w : World) (hr0_1 : Kd.C k155 w A0_1 l0_1.length l0_1) (hc0_1 : l0_1.length ≤ c0_1) (hr0_2 : Kd.C (Kd.int .i64) w A0_2 l0_2.length l0_2) (hc0_2 : l0_2.length ≤ c0_2) (h : laws_szWarp.f a0_0 l0_1 l0_2 a1 = some r) :
  Calls Tryz.prog 57 #[.agg #[.int .i64 a0_0, .slice A0_1 l0_1.length c0_1, .slice A0_2 l0_2.length c0_2], .int .i64 a1] w fun e w' => e = .returned (.int .i64 r) ∧ Below w.heap.size w w' := by
 have hu87 := Tryz.underlying87; have HR0_1 := Aside0.mk hr0_1; have HC0_1 := Aside0.mk hc0_1; clear hr0_1 hc0_1; have HR0_2 := Aside0.mk hr0_2; have HC0_2 := Aside0.mk hc0_2; clear hr0_2 hc0_2; have HB := Aside0.mk (Below.refl w.heap.size w)
 have H : ((laws_szFrameS.f l0_1 a1).bind fun t12 => (if t12 < 0 then (some (-1)) else ((laws_szIntS.f l0_2 t12).bind fun t13 => (if t13 < 0 then (some (-1)) else (some t13))))) = some r := h
 clear h; obtain ⟨t12, A3, H⟩ := bnd H; (try dsimp only at H)
 by_cases c4 : t12 < 0
 ·rw [if_pos c4] at H
  have c4b0 := decide_eq_true c4
  clear c4; obtain rfl := oI H
  go_enter Tryz.func57, Tryz.ntmps57
  go_wp2_with (first | (refine bxe 2 #[.int .i64 a0_0, .slice A0_1 l0_1.length c0_1, .slice A0_2 l0_2.length c0_2] 87 ?_; intro gb11 hg w5 hbox hb; have BK11 := Aside0.mk (hbox); have GW11 := Aside0.mk (gwe hg : w.heap.size ≤ _); have GE11 := GW11; replace HB := hbs hb; clear hb hbox hg; obtain ⟨_, _, _, _, _, _⟩ := box3 BK11) | (refine gL 99 (some 8) Tryz.func99 #[.slice A0_1 l0_1.length c0_1, .int .i64 a1] ?_; refine (laws_szFrameS.calls _ _ l0_1 a1 t12 _ (cb HR0_1) HC0_1.out A3.out).mono ?_; rintro e w' ⟨rfl, ⟨nd, rfl⟩⟩; refine ⟨_, rfl, ?_⟩))
  go_ret
  exact ⟨rfe, bels⟩
 ·rw [if_neg c4] at H
  have c4b0 := decide_eq_false c4
  clear c4; obtain ⟨t13, A7, H⟩ := bnd H; (try dsimp only at H)
  by_cases c8 : t13 < 0
  ·rw [if_pos c8] at H
   have c8b0 := decide_eq_true c8
   clear c8; obtain rfl := oI H
   go_enter Tryz.func57, Tryz.ntmps57
   go_wp2_with (first | (refine bxe 2 #[.int .i64 a0_0, .slice A0_1 l0_1.length c0_1, .slice A0_2 l0_2.length c0_2] 87 ?_; intro gb11 hg w9 hbox hb; have BK11 := Aside0.mk (hbox); have GW11 := Aside0.mk (gwe hg : w.heap.size ≤ _); have GE11 := GW11; replace HB := hbs hb; clear hb hbox hg; obtain ⟨_, _, _, _, _, _⟩ := box3 BK11) | (refine gL 99 (some 8) Tryz.func99 #[.slice A0_1 l0_1.length c0_1, .int .i64 a1] ?_; refine (laws_szFrameS.calls _ _ l0_1 a1 t12 _ (cb HR0_1) HC0_1.out A3.out).mono ?_; rintro e w' ⟨rfl, ⟨nd, rfl⟩⟩; refine ⟨_, rfl, ?_⟩) | (refine gL 25 (some 14) Tryz.func25 #[.slice A0_2 l0_2.length c0_2, .int .i64 t12] ?_; refine (laws_szIntS.calls _ _ l0_2 t12 t13 _ (cb HR0_2) HC0_2.out A7.out).mono ?_; rintro e w' ⟨rfl, ⟨nd, rfl⟩⟩; refine ⟨_, rfl, ?_⟩))
   go_ret
   exact ⟨rfe, bels⟩
  ·rw [if_neg c8] at H
   have c8b0 := decide_eq_false c8
   clear c8; obtain rfl := oI H
   go_enter Tryz.func57, Tryz.ntmps57
   go_wp2_with (first | (refine bxe 2 #[.int .i64 a0_0, .slice A0_1 l0_1.length c0_1, .slice A0_2 l0_2.length c0_2] 87 ?_; intro gb11 hg w11 hbox hb; have BK11 := Aside0.mk (hbox); have GW11 := Aside0.mk (gwe hg : w.heap.size ≤ _); have GE11 := GW11; replace HB := hbs hb; clear hb hbox hg; obtain ⟨_, _, _, _, _, _⟩ := box3 BK11) | (refine gL 99 (some 8) Tryz.func99 #[.slice A0_1 l0_1.length c0_1, .int .i64 a1] ?_; refine (laws_szFrameS.calls _ _ l0_1 a1 t12 _ (cb HR0_1) HC0_1.out A3.out).mono ?_; rintro e w' ⟨rfl, ⟨nd, rfl⟩⟩; refine ⟨_, rfl, ?_⟩) | (refine gL 25 (some 14) Tryz.func25 #[.slice A0_2 l0_2.length c0_2, .int .i64 t12] ?_; refine (laws_szIntS.calls _ _ l0_2 t12 t13 _ (cb HR0_2) HC0_2.out A7.out).mono ?_; rintro e w' ⟨rfl, ⟨nd, rfl⟩⟩; refine ⟨_, rfl, ?_⟩))
   go_ret
   exact ⟨rfe, bels⟩

/-! ### laws_szWarpS: function 24 -/
def laws_szWarpS.l0 : Nat → List (S87) → Int → Int → Option (Int)
 | 0, _, _, _ => none
 | k + 1, x0, x1, x5 => if x5 < (x0.length : Int) then (if 0 ≤ x5 then ((laws_szWarp.f ((rd_T87 x0 x5).f0) ((rd_T87 x0 x5).f1) ((rd_T87 x0 x5).f2) x1).bind fun t12 => (if t12 < 0 then (some (-1)) else (laws_szWarpS.l0 k x0 t12 (wrap64 (x5 + 1))))) else (none)) else (some x1)
def laws_szWarpS.f (k : Nat) (l0 : List (S87)) (a1 : Int) : Option (Int) := if (wrap64 (a1 - (l0.length : Int))) < 0 then (some (-1)) else (laws_szWarpS.l0 k l0 (wrap64 (a1 - (l0.length : Int))) 0)
set_option maxHeartbeats 8000000 in
set_option maxRecDepth 100000 in
theorem laws_szWarpS.calls (k : Nat) (A0 : Option Addr) (c0 : Nat) (l0 : List (S87)) (a1 : Int) (r : Int) (w : World) (hr0 : Kd.C k87 w A0 l0.length l0) (hc0 : l0.length ≤ c0) (h : laws_szWarpS.f k l0 a1 = some r) :
  Calls Tryz.prog 24 #[.slice A0 l0.length c0, .int .i64 a1] w fun e w' => e = .returned (.int .i64 r) ∧ Below w.heap.size w w' := by
 have hu87 := Tryz.underlying87; have HR0 := Aside0.mk hr0; have HC0 := Aside0.mk hc0; clear hr0 hc0; have HB := Aside0.mk (Below.refl w.heap.size w)
 have H : (if (wrap64 (a1 - (l0.length : Int))) < 0 then (some (-1)) else (laws_szWarpS.l0 k l0 (wrap64 (a1 - (l0.length : Int))) 0)) = some r := h
 clear h
 by_cases c3 : (wrap64 (a1 - (l0.length : Int))) < 0
 ·rw [if_pos c3] at H
  have c3b0 := decide_eq_true c3
  clear c3; obtain rfl := oI H
  go_enter Tryz.func24, Tryz.ntmps24
  go_wp2
  go_ret
  exact ⟨rfe, bels⟩
 ·rw [if_neg c3] at H
  have c3b0 := decide_eq_false c3
  clear c3
  have H' := Aside0.mk H
  clear H
  go_enter Tryz.func24, Tryz.ntmps24
  go_wp2
  go_loopg [1, 5] k (fun kq v1 v5 w' => ∃ (x1_1 : Int) (x5_1 : Int), v1 = .int .i64 x1_1 ∧ v5 = .int .i64 x5_1 ∧ Aside0 (laws_szWarpS.l0 kq l0 x1_1 x5_1 = some r) ∧ Aside0 (kq ≤ k) ∧ Aside0 (Below w.heap.size w w'))
  case atStart => exact ⟨(wrap64 (a1 - (l0.length : Int))), (0), rfx, rfx, H', ⟨Nat.le_refl _⟩, ⟨bels⟩⟩
  case round =>
   clear H'
   try clear c2
   try clear p2
   try clear c3
   try clear c3b0
   obtain ⟨x1_1, x5_1, rfl, rfl, HA, HK1, HB⟩ := hrel
   cases gk with
   | zero => exact absurd HA.out (by simp [laws_szWarpS.l0])
   | succ k1 =>
    have H := HA.out; clear HA
    simp only [laws_szWarpS.l0] at H
    by_cases c4 : x5_1 < (l0.length : Int)
    ·rw [if_pos c4] at H
     have c4b0 := decide_eq_true c4
     clear c4
     obtain ⟨c5, H⟩ := ifS H
     have c5b0 := decide_eq_true c5
     clear c5; obtain ⟨t12, A6, H⟩ := bnd H; (try dsimp only at H)
     by_cases c7 : t12 < 0
     ·rw [if_pos c7] at H
      have c7b0 := decide_eq_true c7
      clear c7; obtain rfl := oI H
      have p11 : 0 ≤ (x5_1 : Int) := pq0
      have q11 : x5_1 < (l0.length : Int) := pq0
      obtain ⟨ad11, A11_1, c11_1, A11_2, c11_2, e11, hx11_0, hx11_1, hx11_2, hl11_1, hi11_1, hl11_2, hi11_2⟩ := at_T87 HR0.out x5_1 p11 q11
      cases e11
      replace hx11_0 := hxb hx11_0; replace hx11_1 := hxb hx11_1; replace hx11_2 := hxb hx11_2; have HR11_1 := Aside0.mk hi11_1; have HC11_1 := Aside0.mk hl11_1; clear hi11_1 hl11_1; have HR11_2 := Aside0.mk hi11_2; have HC11_2 := Aside0.mk hl11_2; clear hi11_2 hl11_2; replace p11 := eq_true p11; replace q11 := eq_true q11
      go_wp2_with (first | (refine gL 57 (some 23) Tryz.func57 #[.agg #[.int .i64 ((rd_T87 l0 x5_1).f0), .slice A11_1 ((rd_T87 l0 x5_1).f1).length c11_1, .slice A11_2 ((rd_T87 l0 x5_1).f2).length c11_2], .int .i64 x1_1] ?_; refine (laws_szWarp.calls ((rd_T87 l0 x5_1).f0) _ _ ((rd_T87 l0 x5_1).f1) _ _ ((rd_T87 l0 x5_1).f2) x1_1 t12 _ (cb HR11_1) HC11_1.out (cb HR11_2) HC11_2.out A6.out).mono ?_; rintro e w8 ⟨rfl, hb⟩; refine ⟨_, rfl, ?_⟩; replace HB := hbs hb; clear hb))
      go_ret
      exact ⟨rfe, bels⟩
     ·rw [if_neg c7] at H
      have c7b0 := decide_eq_false c7
      clear c7
      have H' := Aside0.mk H
      clear H
      have p11 : 0 ≤ (x5_1 : Int) := pq0
      have q11 : x5_1 < (l0.length : Int) := pq0
      obtain ⟨ad11, A11_1, c11_1, A11_2, c11_2, e11, hx11_0, hx11_1, hx11_2, hl11_1, hi11_1, hl11_2, hi11_2⟩ := at_T87 HR0.out x5_1 p11 q11
      cases e11
      replace hx11_0 := hxb hx11_0; replace hx11_1 := hxb hx11_1; replace hx11_2 := hxb hx11_2; have HR11_1 := Aside0.mk hi11_1; have HC11_1 := Aside0.mk hl11_1; clear hi11_1 hl11_1; have HR11_2 := Aside0.mk hi11_2; have HC11_2 := Aside0.mk hl11_2; clear hi11_2 hl11_2; replace p11 := eq_true p11; replace q11 := eq_true q11
      go_wp2_with (first | (refine gL 57 (some 23) Tryz.func57 #[.agg #[.int .i64 ((rd_T87 l0 x5_1).f0), .slice A11_1 ((rd_T87 l0 x5_1).f1).length c11_1, .slice A11_2 ((rd_T87 l0 x5_1).f2).length c11_2], .int .i64 x1_1] ?_; refine (laws_szWarp.calls ((rd_T87 l0 x5_1).f0) _ _ ((rd_T87 l0 x5_1).f1) _ _ ((rd_T87 l0 x5_1).f2) x1_1 t12 _ (cb HR11_1) HC11_1.out (cb HR11_2) HC11_2.out A6.out).mono ?_; rintro e w9 ⟨rfl, hb⟩; refine ⟨_, rfl, ?_⟩; replace HB := hbs hb; clear hb))
      go_roundg k1
      case measure => have := HK1.out; omega
      case rel => exact ⟨(t12), (wrap64 (x5_1 + 1)), rfx, rfx, H', ⟨by have := HK1.out; omega⟩, ⟨bels⟩⟩
    ·rw [if_neg c4] at H
     have c4b0 := decide_eq_false c4
     clear c4; obtain rfl := oI H
     go_wp2
     go_ret
     exact ⟨rfe, bels⟩

/-! ### laws_szBlock: function 6 -/
def laws_szBlock.f (k : Nat) (l0_0 : List (S97)) (l0_1 : List (S87)) (l0_2 : List Int) (a0_3 : Int) (a0_4 : Int) (a1 : Int) : Option (Int) := (laws_szInsS.f l0_0 a1).bind fun t12 => (if t12 < 0 then (some (-1)) else ((laws_szWarpS.f k l0_1 t12).bind fun t13 => (if t13 < 0 then (some (-1)) else ((laws_szIntS.f l0_2 t13).bind fun t14 => (if t14 < 0 then (some (-1)) else (some t14))))))
set_option maxHeartbeats 8000000 in
set_option maxRecDepth 100000 in
theorem laws_szBlock.calls (k : Nat) (A0_0 : Option Addr) (c0_0 : Nat) (l0_0 : List (S97)) (A0_1 : Option Addr) (c0_1 : Nat) (l0_1 : List (S87)) (A0_2 : Option Addr) (c0_2 : Nat) (l0_2 : List Int) (a0_3 : Int) (a0_4 : Int) (a1 : Int) (r : Int) (w : World) (hr0_0 : Kd.C k97 w A0_0 l0_0.length l0_0) (hc0_0 : l0_0.length ≤ c0_0) (hr0_1 : Kd.C k87 w A0_1 l0_1.length l0_1) (hc0_1 : l0_1.length ≤ c0_1) (hr0_2 : Kd.C (Kd.int .i64) w A0_2 l0_2.length l0_2) (hc0_2 : l0_2.length ≤ c0_2) (h : laws_szBlock.f k l0_0 l0_1 l0_2 a0_3 a0_4 a1 = some r) :
  Calls Tryz.prog 6 #[.agg #[.slice A0_0 l0_0.length c0_0, .slice A0_1 l0_1.length c0_1, .slice A0_2 l0_2.length c0_2, .int .i64 a0_3, .int .i64 a0_4], .int .i64 a1] w fun e w' => e = .returned (.int .i64 r) ∧ Below w.heap.size w w' := by
 have hu26 := Tryz.underlying26; have HR0_0 := Aside0.mk hr0_0; have HC0_0 := Aside0.mk hc0_0; clear hr0_0 hc0_0; have HR0_1 := Aside0.mk hr0_1; have HC0_1 := Aside0.mk hc0_1; clear hr0_1 hc0_1; have HR0_2 := Aside0.mk hr0_2; have HC0_2 := Aside0.mk hc0_2; clear hr0_2 hc0_2; have HB := Aside0.mk (Below.refl w.heap.size w)
 have H : ((laws_szInsS.f l0_0 a1).bind fun t12 => (if t12 < 0 then (some (-1)) else ((laws_szWarpS.f k l0_1 t12).bind fun t13 => (if t13 < 0 then (some (-1)) else ((laws_szIntS.f l0_2 t13).bind fun t14 => (if t14 < 0 then (some (-1)) else (some t14))))))) = some r := h
 clear h; obtain ⟨t12, A3, H⟩ := bnd H; (try dsimp only at H)
 by_cases c4 : t12 < 0
 ·rw [if_pos c4] at H
  have c4b0 := decide_eq_true c4
  clear c4; obtain rfl := oI H
  go_enter Tryz.func6, Tryz.ntmps6
  go_wp2_with (first | (refine bxe 2 #[.slice A0_0 l0_0.length c0_0, .slice A0_1 l0_1.length c0_1, .slice A0_2 l0_2.length c0_2, .int .i64 a0_3, .int .i64 a0_4] 26 ?_; intro gb11 hg w5 hbox hb; have BK11 := Aside0.mk (hbox); have GW11 := Aside0.mk (gwe hg : w.heap.size ≤ _); have GE11 := GW11; replace HB := hbs hb; clear hb hbox hg; obtain ⟨_, _, _, _, _, _, _, _, _, _⟩ := box5 BK11) | (refine gL 23 (some 8) Tryz.func23 #[.slice A0_0 l0_0.length c0_0, .int .i64 a1] ?_; refine (laws_szInsS.calls _ _ l0_0 a1 t12 _ (cb HR0_0) HC0_0.out A3.out).mono ?_; rintro e w' ⟨rfl, ⟨nd, rfl⟩⟩; refine ⟨_, rfl, ?_⟩))
  go_ret
  exact ⟨rfe, bels⟩
 ·rw [if_neg c4] at H
  have c4b0 := decide_eq_false c4
  clear c4; obtain ⟨t13, A7, H⟩ := bnd H; (try dsimp only at H)
  by_cases c8 : t13 < 0
  ·rw [if_pos c8] at H
   have c8b0 := decide_eq_true c8
   clear c8; obtain rfl := oI H
   go_enter Tryz.func6, Tryz.ntmps6
   go_wp2_with (first | (refine bxe 2 #[.slice A0_0 l0_0.length c0_0, .slice A0_1 l0_1.length c0_1, .slice A0_2 l0_2.length c0_2, .int .i64 a0_3, .int .i64 a0_4] 26 ?_; intro gb11 hg w9 hbox hb; have BK11 := Aside0.mk (hbox); have GW11 := Aside0.mk (gwe hg : w.heap.size ≤ _); have GE11 := GW11; replace HB := hbs hb; clear hb hbox hg; obtain ⟨_, _, _, _, _, _, _, _, _, _⟩ := box5 BK11) | (refine gL 23 (some 8) Tryz.func23 #[.slice A0_0 l0_0.length c0_0, .int .i64 a1] ?_; refine (laws_szInsS.calls _ _ l0_0 a1 t12 _ (cb HR0_0) HC0_0.out A3.out).mono ?_; rintro e w' ⟨rfl, ⟨nd, rfl⟩⟩; refine ⟨_, rfl, ?_⟩) | (refine gL 24 (some 14) Tryz.func24 #[.slice A0_1 l0_1.length c0_1, .int .i64 t12] ?_; refine (laws_szWarpS.calls k _ _ l0_1 t12 t13 _ (cb HR0_1) HC0_1.out A7.out).mono ?_; rintro e w11 ⟨rfl, hb⟩; refine ⟨_, rfl, ?_⟩; replace BK11 := kb BK11 hb; replace HB := hbs hb; clear hb))
   go_ret
   exact ⟨rfe, bels⟩
  ·rw [if_neg c8] at H
   have c8b0 := decide_eq_false c8
   clear c8; obtain ⟨t14, A12, H⟩ := bnd H; (try dsimp only at H)
   by_cases c13 : t14 < 0
   ·rw [if_pos c13] at H
    have c13b0 := decide_eq_true c13
    clear c13; obtain rfl := oI H
    go_enter Tryz.func6, Tryz.ntmps6
    go_wp2_with (first | (refine bxe 2 #[.slice A0_0 l0_0.length c0_0, .slice A0_1 l0_1.length c0_1, .slice A0_2 l0_2.length c0_2, .int .i64 a0_3, .int .i64 a0_4] 26 ?_; intro gb11 hg w14 hbox hb; have BK11 := Aside0.mk (hbox); have GW11 := Aside0.mk (gwe hg : w.heap.size ≤ _); have GE11 := GW11; replace HB := hbs hb; clear hb hbox hg; obtain ⟨_, _, _, _, _, _, _, _, _, _⟩ := box5 BK11) | (refine gL 23 (some 8) Tryz.func23 #[.slice A0_0 l0_0.length c0_0, .int .i64 a1] ?_; refine (laws_szInsS.calls _ _ l0_0 a1 t12 _ (cb HR0_0) HC0_0.out A3.out).mono ?_; rintro e w' ⟨rfl, ⟨nd, rfl⟩⟩; refine ⟨_, rfl, ?_⟩) | (refine gL 24 (some 14) Tryz.func24 #[.slice A0_1 l0_1.length c0_1, .int .i64 t12] ?_; refine (laws_szWarpS.calls k _ _ l0_1 t12 t13 _ (cb HR0_1) HC0_1.out A7.out).mono ?_; rintro e w16 ⟨rfl, hb⟩; refine ⟨_, rfl, ?_⟩; replace BK11 := kb BK11 hb; replace HB := hbs hb; clear hb; obtain ⟨_, _, _, _, _, _, _, _, _, _⟩ := box5 BK11) | (refine gL 25 (some 20) Tryz.func25 #[.slice A0_2 l0_2.length c0_2, .int .i64 t13] ?_; refine (laws_szIntS.calls _ _ l0_2 t13 t14 _ (cb HR0_2) HC0_2.out A12.out).mono ?_; rintro e w' ⟨rfl, ⟨nd, rfl⟩⟩; refine ⟨_, rfl, ?_⟩))
    go_ret
    exact ⟨rfe, bels⟩
   ·rw [if_neg c13] at H
    have c13b0 := decide_eq_false c13
    clear c13; obtain rfl := oI H
    go_enter Tryz.func6, Tryz.ntmps6
    go_wp2_with (first | (refine bxe 2 #[.slice A0_0 l0_0.length c0_0, .slice A0_1 l0_1.length c0_1, .slice A0_2 l0_2.length c0_2, .int .i64 a0_3, .int .i64 a0_4] 26 ?_; intro gb11 hg w18 hbox hb; have BK11 := Aside0.mk (hbox); have GW11 := Aside0.mk (gwe hg : w.heap.size ≤ _); have GE11 := GW11; replace HB := hbs hb; clear hb hbox hg; obtain ⟨_, _, _, _, _, _, _, _, _, _⟩ := box5 BK11) | (refine gL 23 (some 8) Tryz.func23 #[.slice A0_0 l0_0.length c0_0, .int .i64 a1] ?_; refine (laws_szInsS.calls _ _ l0_0 a1 t12 _ (cb HR0_0) HC0_0.out A3.out).mono ?_; rintro e w' ⟨rfl, ⟨nd, rfl⟩⟩; refine ⟨_, rfl, ?_⟩) | (refine gL 24 (some 14) Tryz.func24 #[.slice A0_1 l0_1.length c0_1, .int .i64 t12] ?_; refine (laws_szWarpS.calls k _ _ l0_1 t12 t13 _ (cb HR0_1) HC0_1.out A7.out).mono ?_; rintro e w20 ⟨rfl, hb⟩; refine ⟨_, rfl, ?_⟩; replace BK11 := kb BK11 hb; replace HB := hbs hb; clear hb; obtain ⟨_, _, _, _, _, _, _, _, _, _⟩ := box5 BK11) | (refine gL 25 (some 20) Tryz.func25 #[.slice A0_2 l0_2.length c0_2, .int .i64 t13] ?_; refine (laws_szIntS.calls _ _ l0_2 t13 t14 _ (cb HR0_2) HC0_2.out A12.out).mono ?_; rintro e w' ⟨rfl, ⟨nd, rfl⟩⟩; refine ⟨_, rfl, ?_⟩))
    go_ret
    exact ⟨rfe, bels⟩

/-! ### spec_l01In: function 59 -/
def spec_l01In.f (a0 : Int) (a1 : Int) (a2 : Int) : Option (Bool) := if a0 ≥ a1 then (some (decide (a0 ≤ a2))) else (some false)
set_option maxHeartbeats 8000000 in
set_option maxRecDepth 100000 in
theorem spec_l01In.calls (a0 : Int) (a1 : Int) (a2 : Int) (r : Bool) (w : World) (h : spec_l01In.f a0 a1 a2 = some r) :
  Calls Tryz.prog 59 #[.int .i64 a0, .int .i64 a1, .int .i64 a2] w fun e w' => e = .returned (.bool r) ∧ Drawn0 w w' := by
 have H : (if a0 ≥ a1 then (some (decide (a0 ≤ a2))) else (some false)) = some r := h
 clear h
 by_cases c4 : a0 ≥ a1
 ·rw [if_pos c4] at H
  have c4b0 := decide_eq_true c4
  clear c4; obtain rfl := oI H
  go_enter Tryz.func59, Tryz.ntmps59
  go_wp2
  go_ret
  exact ⟨by first | rfl | (simp; done) | (simp [*]; done), by repeat (first | exact Drawn0.refl _ | apply Drawn0.step)⟩
 ·rw [if_neg c4] at H
  have c4b0 := decide_eq_false c4
  clear c4; obtain rfl := oI H
  go_enter Tryz.func59, Tryz.ntmps59
  go_wp2
  go_ret
  exact ⟨by first | rfl | (simp; done) | (simp [*]; done), by repeat (first | exact Drawn0.refl _ | apply Drawn0.step)⟩

/-! ### spec_IsWord: function 101 -/
def spec_IsWord.f (a0 : Int) : Option (Bool) := (spec_l01In.f a0 0 65535).bind fun t11 => (some t11)
set_option maxHeartbeats 8000000 in
set_option maxRecDepth 100000 in
theorem spec_IsWord.calls (a0 : Int) (r : Bool) (w : World) (h : spec_IsWord.f a0 = some r) :
  Calls Tryz.prog 101 #[.int .i64 a0] w fun e w' => e = .returned (.bool r) ∧ Drawn0 w w' := by
 have H : ((spec_l01In.f a0 0 65535).bind fun t11 => (some t11)) = some r := h
 clear h; obtain ⟨t11, A2, H⟩ := bnd H; (try dsimp only at H); obtain rfl := oI H
 go_enter Tryz.func101, Tryz.ntmps101
 go_wp2_with (first | (refine gL 59 (some 4) Tryz.func59 #[.int .i64 a0, .int .i64 0, .int .i64 65535] ?_; (with_reducible refine (spec_l01In.calls a0 0 65535 t11 _ A2.out).mono ?_); rintro e w' ⟨rfl, ⟨nd, rfl⟩⟩; refine ⟨_, rfl, ?_⟩))
 go_ret
 exact ⟨by first | rfl | (simp; done) | (simp [*]; done), by repeat (first | exact Drawn0.refl _ | apply Drawn0.step)⟩

/-! ### spec_l04Reg: function 137 -/
def spec_l04Reg.f (a0 : Int) : Option (Bool) := (spec_l01In.f a0 0 3).bind fun t11 => (some t11)
set_option maxHeartbeats 8000000 in
set_option maxRecDepth 100000 in
theorem spec_l04Reg.calls (a0 : Int) (r : Bool) (w : World) (h : spec_l04Reg.f a0 = some r) :
  Calls Tryz.prog 137 #[.int .i64 a0] w fun e w' => e = .returned (.bool r) ∧ Drawn0 w w' := by
 have H : ((spec_l01In.f a0 0 3).bind fun t11 => (some t11)) = some r := h
 clear h; obtain ⟨t11, A2, H⟩ := bnd H; (try dsimp only at H); obtain rfl := oI H
 go_enter Tryz.func137, Tryz.ntmps137
 go_wp2_with (first | (refine gL 59 (some 4) Tryz.func59 #[.int .i64 a0, .int .i64 0, .int .i64 3] ?_; (with_reducible refine (spec_l01In.calls a0 0 3 t11 _ A2.out).mono ?_); rintro e w' ⟨rfl, ⟨nd, rfl⟩⟩; refine ⟨_, rfl, ?_⟩))
 go_ret
 exact ⟨by first | rfl | (simp; done) | (simp [*]; done), by repeat (first | exact Drawn0.refl _ | apply Drawn0.step)⟩

/-! ### spec_InsOk: function 100 -/
mutual
def spec_InsOk.j0 : Nat → Int → Int → Bool → Int → Int → Int → Int → Option (Bool)
 | 0, _, _, _, _, _, _, _ => none
 | k + 1, x1, x9, x10, x12000, x12001, x12002, x12003 => if x10 = true then (if x12001 = 0 then (if x12002 = 0 then (some (x12003 == 0)) else (some false)) else (some false)) else (if x9 = 1 then ((spec_l04Reg.f x12001).bind fun t13 => (if t13 = true then ((spec_IsWord.f x12002).bind fun t14 => (if t14 = true then (some (x12003 == 0)) else (some false))) else (some false))) else (if x9 = 2 then (spec_InsOk.j1 k x1 x9 (x9 == 2) x12000 x12001 x12002 x12003) else (if x9 = 13 then (spec_InsOk.j1 k x1 x9 (x9 == 13) x12000 x12001 x12002 x12003) else (if x9 = 14 then (spec_InsOk.j1 k x1 x9 (x9 == 14) x12000 x12001 x12002 x12003) else (spec_InsOk.j1 k x1 x9 (x9 == 15) x12000 x12001 x12002 x12003)))))
def spec_InsOk.j1 : Nat → Int → Int → Bool → Int → Int → Int → Int → Option (Bool)
 | 0, _, _, _, _, _, _, _ => none
 | k + 1, x1, x9, x42, x12000, x12001, x12002, x12003 => if x42 = true then ((spec_l04Reg.f x12001).bind fun t15 => (if t15 = true then ((spec_l04Reg.f x12002).bind fun t16 => (if t16 = true then (some (x12003 == 0)) else (some false))) else (some false))) else (if x9 = 8 then ((spec_l04Reg.f x12001).bind fun t17 => (if t17 = true then (if x12002 = 0 then (some (x12003 == 0)) else (some false)) else (some false))) else (if x9 = 10 then ((spec_l04Reg.f x12001).bind fun t18 => (if t18 = true then ((spec_l01In.f x12002 0 x1).bind fun t19 => (if t19 = true then (some (x12003 == 0)) else (some false))) else (some false))) else (if x9 = 11 then (if x12001 = 0 then ((spec_l01In.f x12002 0 x1).bind fun t20 => (if t20 = true then (some (x12003 == 0)) else (some false))) else (some false)) else ((spec_l01In.f x12000 3 9).bind fun t21 => (if t21 = true then ((spec_l04Reg.f x12001).bind fun t22 => (if t22 = true then ((spec_l04Reg.f x12002).bind fun t23 => (if t23 = true then ((spec_l04Reg.f x12003).bind fun t24 => (some t24)) else (some false))) else (some false))) else (some false))))))
end
def spec_InsOk.f (k : Nat) (a0_0 : Int) (a0_1 : Int) (a0_2 : Int) (a0_3 : Int) (a1 : Int) : Option (Bool) := (spec_l01In.f a1 0 32).bind fun t12 => (if t12 = true then (if a0_0 = 0 then (spec_InsOk.j0 k a1 a0_0 (a0_0 == 0) a0_0 a0_1 a0_2 a0_3) else (if a0_0 = 12 then (spec_InsOk.j0 k a1 a0_0 (a0_0 == 12) a0_0 a0_1 a0_2 a0_3) else (spec_InsOk.j0 k a1 a0_0 (a0_0 == 16) a0_0 a0_1 a0_2 a0_3))) else (some false))
set_option maxHeartbeats 8000000 in
set_option maxRecDepth 100000 in
theorem spec_InsOk.calls (k : Nat) (a0_0 : Int) (a0_1 : Int) (a0_2 : Int) (a0_3 : Int) (a1 : Int) (r : Bool) (w : World) (h : spec_InsOk.f k a0_0 a0_1 a0_2 a0_3 a1 = some r) :
  Calls Tryz.prog 100 #[.agg #[.int .i64 a0_0, .int .i64 a0_1, .int .i64 a0_2, .int .i64 a0_3], .int .i64 a1] w fun e w' => e = .returned (.bool r) ∧ Below w.heap.size w w' := by
 have hu95 := Tryz.underlying95; have HB := Aside0.mk (Below.refl w.heap.size w)
 have H : ((spec_l01In.f a1 0 32).bind fun t12 => (if t12 = true then (if a0_0 = 0 then (spec_InsOk.j0 k a1 a0_0 (a0_0 == 0) a0_0 a0_1 a0_2 a0_3) else (if a0_0 = 12 then (spec_InsOk.j0 k a1 a0_0 (a0_0 == 12) a0_0 a0_1 a0_2 a0_3) else (spec_InsOk.j0 k a1 a0_0 (a0_0 == 16) a0_0 a0_1 a0_2 a0_3))) else (some false))) = some r := h
 clear h; obtain ⟨t12, A3, H⟩ := bnd H; (try dsimp only at H)
 by_cases c4 : t12 = true
 ·subst c4; rw [if_pos rfl] at H; have HC5 := Aside0.mk H; clear H
  go_enter Tryz.func100, Tryz.ntmps100
  go_upto_if 10 with (first | (refine bxe 2 #[.int .i64 a0_0, .int .i64 a0_1, .int .i64 a0_2, .int .i64 a0_3] 95 ?_; intro gb11 hg w6 hbox hb; have BK11 := Aside0.mk (hbox); have GW11 := Aside0.mk (gwe hg : w.heap.size ≤ _); have GE11 := GW11; replace HB := hbs hb; clear hb hbox hg) | (refine gL 59 (some 6) Tryz.func59 #[.int .i64 a1, .int .i64 0, .int .i64 32] ?_; (with_reducible refine (spec_l01In.calls a1 0 32 true _ A3.out).mono ?_); rintro e w' ⟨rfl, ⟨nd, rfl⟩⟩; refine ⟨_, rfl, ?_⟩; obtain ⟨_, _, _, _, _, _, _, _⟩ := box4 BK11))
  (try simp only [Act.put, List.setIfInBounds_toArray, List.set_cons_zero, List.set_cons_succ])
  go_cut [10] (fun v10 wc => ∃ (kq : Nat) (x10_4 : Bool), v10 = .bool x10_4 ∧ Aside0 (spec_InsOk.j0 kq a1 a0_0 x10_4 a0_0 a0_1 a0_2 a0_3 = some r) ∧ Aside0 (kq ≤ k) ∧ Aside0 (wc.heap[gb11]? = some (.cells #[.int .i64 a0_0, .int .i64 a0_1, .int .i64 a0_2, .int .i64 a0_3] 95 (0, 0))) ∧ Aside0 (Below w.heap.size w wc))
  case first =>
   have H := HC5.out; clear HC5
   by_cases c8 : a0_0 = 0
   ·rw [if_pos c8] at H
    have c8b0 : (a0_0 == 0) = true := beq_iff_eq.mpr c8
    have c8b1 : (a0_0 != 0) = false := bne_eq_false_iff_eq.mpr c8
    clear c8
    (first | rw [c8b0] | (simp only [i64_w, i32_w]; rw [c8b0]) | skip)
    have H' := Aside0.mk H
    clear H
    go_wp2
    go_meet
    case rel => exact ⟨_, ((a0_0 == 0)), rfx, H', ⟨omx⟩, ⟨bk⟩, ⟨bels⟩⟩
   ·rw [if_neg c8] at H
    have c8b0 : (a0_0 == 0) = false := beq_eq_false_iff_ne.mpr c8
    have c8b1 : (a0_0 != 0) = true := bne_iff_ne.mpr c8
    (first | rw [c8b0] | (simp only [i64_w, i32_w]; rw [c8b0]) | skip)
    by_cases c9 : a0_0 = 12
    ·rw [if_pos c9] at H
     have c9b0 : (a0_0 == 12) = true := beq_iff_eq.mpr c9
     have c9b1 : (a0_0 != 12) = false := bne_eq_false_iff_eq.mpr c9
     clear c9
     have H' := Aside0.mk H
     clear H
     go_wp2
     go_meet
     case rel => exact ⟨_, ((a0_0 == 12)), rfx, H', ⟨omx⟩, ⟨bk⟩, ⟨bels⟩⟩
    ·rw [if_neg c9] at H
     have c9b0 : (a0_0 == 12) = false := beq_eq_false_iff_ne.mpr c9
     have c9b1 : (a0_0 != 12) = true := bne_iff_ne.mpr c9
     have H' := Aside0.mk H
     clear H
     go_wp2
     go_meet
     case rel => exact ⟨_, ((a0_0 == 16)), rfx, H', ⟨omx⟩, ⟨bk⟩, ⟨bels⟩⟩
  case rest =>
   clear HC5
   try clear c1
   try clear p2
   try clear c4
   try clear c5
   try clear c8
   try clear c8b0
   try clear c8b1
   try clear c9
   try clear c9b0
   try clear c9b1
   obtain ⟨kq, x10_4, rfl, HA, HJ4, BK11, HB⟩ := hcut
   cases kq with
   | zero => exact absurd HA.out (by simp [spec_InsOk.j0])
   | succ kj4 =>
    have H := HA.out; clear HA
    simp only [spec_InsOk.j0] at H
    by_cases c10 : x10_4 = true
    ·subst c10; rw [if_pos rfl] at H
     by_cases c11 : a0_1 = 0
     ·rw [if_pos c11] at H
      have c11b0 : (a0_1 == 0) = true := beq_iff_eq.mpr c11
      have c11b1 : (a0_1 != 0) = false := bne_eq_false_iff_eq.mpr c11
      clear c11
      by_cases c12 : a0_2 = 0
      ·rw [if_pos c12] at H
       have c12b0 : (a0_2 == 0) = true := beq_iff_eq.mpr c12
       have c12b1 : (a0_2 != 0) = false := bne_eq_false_iff_eq.mpr c12
       clear c12; obtain rfl := oI H; obtain ⟨_, _, _, _, _, _, _, _⟩ := box4 BK11
       go_wp2
       go_ret
       exact ⟨rfe, bels⟩
      ·rw [if_neg c12] at H
       have c12b0 : (a0_2 == 0) = false := beq_eq_false_iff_ne.mpr c12
       have c12b1 : (a0_2 != 0) = true := bne_iff_ne.mpr c12
       obtain rfl := oI H; obtain ⟨_, _, _, _, _, _, _, _⟩ := box4 BK11
       go_wp2
       go_ret
       exact ⟨rfe, bels⟩
     ·rw [if_neg c11] at H
      have c11b0 : (a0_1 == 0) = false := beq_eq_false_iff_ne.mpr c11
      have c11b1 : (a0_1 != 0) = true := bne_iff_ne.mpr c11
      obtain rfl := oI H; obtain ⟨_, _, _, _, _, _, _, _⟩ := box4 BK11
      go_wp2
      go_ret
      exact ⟨rfe, bels⟩
    ·replace c10 := Bool.eq_false_iff.mpr c10; subst c10; rw [if_neg (by decide)] at H
     by_cases c16 : a0_0 = 1
     ·rw [if_pos c16] at H
      have c16b0 : (a0_0 == 1) = true := beq_iff_eq.mpr c16
      have c16b1 : (a0_0 != 1) = false := bne_eq_false_iff_eq.mpr c16
      clear c16; obtain ⟨t13, A17, H⟩ := bnd H; (try dsimp only at H)
      by_cases c18 : t13 = true
      ·subst c18; rw [if_pos rfl] at H; obtain ⟨t14, A19, H⟩ := bnd H; (try dsimp only at H)
       by_cases c20 : t14 = true
       ·subst c20; rw [if_pos rfl] at H; obtain rfl := oI H; obtain ⟨_, _, _, _, _, _, _, _⟩ := box4 BK11
        go_wp2_with (first | (refine gL 137 (some 31) Tryz.func137 #[.int .i64 a0_1] ?_; (with_reducible refine (spec_l04Reg.calls a0_1 true _ A17.out).mono ?_); rintro e w' ⟨rfl, ⟨nd, rfl⟩⟩; refine ⟨_, rfl, ?_⟩) | (go_at_call 101; (with_reducible refine (spec_IsWord.calls a0_2 true _ A19.out).mono ?_); rintro e w' ⟨rfl, ⟨nd, rfl⟩⟩))
        go_ret
        exact ⟨rfe, bels⟩
       ·replace c20 := Bool.eq_false_iff.mpr c20; subst c20; rw [if_neg (by decide)] at H; obtain rfl := oI H; obtain ⟨_, _, _, _, _, _, _, _⟩ := box4 BK11
        go_wp2_with (first | (refine gL 137 (some 31) Tryz.func137 #[.int .i64 a0_1] ?_; (with_reducible refine (spec_l04Reg.calls a0_1 true _ A17.out).mono ?_); rintro e w' ⟨rfl, ⟨nd, rfl⟩⟩; refine ⟨_, rfl, ?_⟩) | (go_at_call 101; (with_reducible refine (spec_IsWord.calls a0_2 false _ A19.out).mono ?_); rintro e w' ⟨rfl, ⟨nd, rfl⟩⟩))
        go_ret
        exact ⟨rfe, bels⟩
      ·replace c18 := Bool.eq_false_iff.mpr c18; subst c18; rw [if_neg (by decide)] at H; obtain rfl := oI H; obtain ⟨_, _, _, _, _, _, _, _⟩ := box4 BK11
       go_wp2_with (first | (refine gL 137 (some 31) Tryz.func137 #[.int .i64 a0_1] ?_; (with_reducible refine (spec_l04Reg.calls a0_1 false _ A17.out).mono ?_); rintro e w' ⟨rfl, ⟨nd, rfl⟩⟩; refine ⟨_, rfl, ?_⟩))
       go_ret
       exact ⟨rfe, bels⟩
     ·rw [if_neg c16] at H
      have c16b0 : (a0_0 == 1) = false := beq_eq_false_iff_ne.mpr c16
      have c16b1 : (a0_0 != 1) = true := bne_iff_ne.mpr c16
      have HC24 := Aside0.mk H; clear H
      go_upto_if 42 with (fail)
      go_cut [42] (fun v42 wc => ∃ (kq : Nat) (x42_23 : Bool), v42 = .bool x42_23 ∧ Aside0 (spec_InsOk.j1 kq a1 a0_0 x42_23 a0_0 a0_1 a0_2 a0_3 = some r) ∧ Aside0 (kq ≤ kj4) ∧ Aside0 (wc.heap[gb11]? = some (.cells #[.int .i64 a0_0, .int .i64 a0_1, .int .i64 a0_2, .int .i64 a0_3] 95 (0, 0))) ∧ Aside0 (Below w.heap.size w wc))
      case first =>
       have H := HC24.out; clear HC24
       by_cases c25 : a0_0 = 2
       ·rw [if_pos c25] at H
        have c25b0 : (a0_0 == 2) = true := beq_iff_eq.mpr c25
        have c25b1 : (a0_0 != 2) = false := bne_eq_false_iff_eq.mpr c25
        clear c25
        (first | rw [c25b0] | (simp only [i64_w, i32_w]; rw [c25b0]) | skip)
        have H' := Aside0.mk H
        clear H
        go_wp2
        go_meet
        case rel => exact ⟨_, ((a0_0 == 2)), rfx, H', ⟨by have := HJ4.out; first | omega | exact Nat.le_refl _⟩, ⟨bk⟩, ⟨bels⟩⟩
       ·rw [if_neg c25] at H
        have c25b0 : (a0_0 == 2) = false := beq_eq_false_iff_ne.mpr c25
        have c25b1 : (a0_0 != 2) = true := bne_iff_ne.mpr c25
        (first | rw [c25b0] | (simp only [i64_w, i32_w]; rw [c25b0]) | skip)
        by_cases c26 : a0_0 = 13
        ·rw [if_pos c26] at H
         have c26b0 : (a0_0 == 13) = true := beq_iff_eq.mpr c26
         have c26b1 : (a0_0 != 13) = false := bne_eq_false_iff_eq.mpr c26
         clear c26
         have H' := Aside0.mk H
         clear H
         go_wp2
         go_meet
         case rel => exact ⟨_, ((a0_0 == 13)), rfx, H', ⟨by have := HJ4.out; first | omega | exact Nat.le_refl _⟩, ⟨bk⟩, ⟨bels⟩⟩
        ·rw [if_neg c26] at H
         have c26b0 : (a0_0 == 13) = false := beq_eq_false_iff_ne.mpr c26
         have c26b1 : (a0_0 != 13) = true := bne_iff_ne.mpr c26
         by_cases c27 : a0_0 = 14
         ·rw [if_pos c27] at H
          have c27b0 : (a0_0 == 14) = true := beq_iff_eq.mpr c27
          have c27b1 : (a0_0 != 14) = false := bne_eq_false_iff_eq.mpr c27
          clear c27
          have H' := Aside0.mk H
          clear H
          go_wp2
          go_meet
          case rel => exact ⟨_, ((a0_0 == 14)), rfx, H', ⟨by have := HJ4.out; first | omega | exact Nat.le_refl _⟩, ⟨bk⟩, ⟨bels⟩⟩
         ·rw [if_neg c27] at H
          have c27b0 : (a0_0 == 14) = false := beq_eq_false_iff_ne.mpr c27
          have c27b1 : (a0_0 != 14) = true := bne_iff_ne.mpr c27
          have H' := Aside0.mk H
          clear H
          go_wp2
          go_meet
          case rel => exact ⟨_, ((a0_0 == 15)), rfx, H', ⟨by have := HJ4.out; first | omega | exact Nat.le_refl _⟩, ⟨bk⟩, ⟨bels⟩⟩
      case rest =>
       clear HC24
       try clear c1
       try clear c2
       try clear p2
       try clear c4
       try clear c5
       try clear c8
       try clear c8b0
       try clear c8b1
       try clear c9
       try clear c9b0
       try clear c9b1
       try clear c10
       try clear c11
       try clear c11b0
       try clear c11b1
       try clear c12
       try clear c12b0
       try clear c12b1
       try clear c13
       try clear c16
       try clear c16b0
       try clear c16b1
       try clear c18
       try clear c20
       try clear c25
       try clear c25b0
       try clear c25b1
       try clear c26
       try clear c26b0
       try clear c26b1
       try clear c27
       try clear c27b0
       try clear c27b1
       try clear p2
       obtain ⟨kq, x42_23, rfl, HA, HJ23, BK11, HB⟩ := hcut
       cases kq with
       | zero => exact absurd HA.out (by simp [spec_InsOk.j1])
       | succ kj23 =>
        have H := HA.out; clear HA
        simp only [spec_InsOk.j1] at H
        by_cases c28 : x42_23 = true
        ·subst c28; rw [if_pos rfl] at H; obtain ⟨t15, A29, H⟩ := bnd H; (try dsimp only at H)
         by_cases c30 : t15 = true
         ·subst c30; rw [if_pos rfl] at H; obtain ⟨t16, A31, H⟩ := bnd H; (try dsimp only at H)
          by_cases c32 : t16 = true
          ·subst c32; rw [if_pos rfl] at H; obtain rfl := oI H; obtain ⟨_, _, _, _, _, _, _, _⟩ := box4 BK11
           go_wp2_with (first | (refine gL 137 (some 49) Tryz.func137 #[.int .i64 a0_1] ?_; (with_reducible refine (spec_l04Reg.calls a0_1 true _ A29.out).mono ?_); rintro e w' ⟨rfl, ⟨nd, rfl⟩⟩; refine ⟨_, rfl, ?_⟩) | (go_at_call 137; (with_reducible refine (spec_l04Reg.calls a0_2 true _ A31.out).mono ?_); rintro e w' ⟨rfl, ⟨nd, rfl⟩⟩))
           go_ret
           exact ⟨rfe, bels⟩
          ·replace c32 := Bool.eq_false_iff.mpr c32; subst c32; rw [if_neg (by decide)] at H; obtain rfl := oI H; obtain ⟨_, _, _, _, _, _, _, _⟩ := box4 BK11
           go_wp2_with (first | (refine gL 137 (some 49) Tryz.func137 #[.int .i64 a0_1] ?_; (with_reducible refine (spec_l04Reg.calls a0_1 true _ A29.out).mono ?_); rintro e w' ⟨rfl, ⟨nd, rfl⟩⟩; refine ⟨_, rfl, ?_⟩) | (go_at_call 137; (with_reducible refine (spec_l04Reg.calls a0_2 false _ A31.out).mono ?_); rintro e w' ⟨rfl, ⟨nd, rfl⟩⟩))
           go_ret
           exact ⟨rfe, bels⟩
         ·replace c30 := Bool.eq_false_iff.mpr c30; subst c30; rw [if_neg (by decide)] at H; obtain rfl := oI H; obtain ⟨_, _, _, _, _, _, _, _⟩ := box4 BK11
          go_wp2_with (first | (refine gL 137 (some 49) Tryz.func137 #[.int .i64 a0_1] ?_; (with_reducible refine (spec_l04Reg.calls a0_1 false _ A29.out).mono ?_); rintro e w' ⟨rfl, ⟨nd, rfl⟩⟩; refine ⟨_, rfl, ?_⟩))
          go_ret
          exact ⟨rfe, bels⟩
        ·replace c28 := Bool.eq_false_iff.mpr c28; subst c28; rw [if_neg (by decide)] at H
         by_cases c36 : a0_0 = 8
         ·rw [if_pos c36] at H
          have c36b0 : (a0_0 == 8) = true := beq_iff_eq.mpr c36
          have c36b1 : (a0_0 != 8) = false := bne_eq_false_iff_eq.mpr c36
          clear c36; obtain ⟨t17, A37, H⟩ := bnd H; (try dsimp only at H)
          by_cases c38 : t17 = true
          ·subst c38; rw [if_pos rfl] at H
           by_cases c39 : a0_2 = 0
           ·rw [if_pos c39] at H
            have c39b0 : (a0_2 == 0) = true := beq_iff_eq.mpr c39
            have c39b1 : (a0_2 != 0) = false := bne_eq_false_iff_eq.mpr c39
            clear c39; obtain rfl := oI H; obtain ⟨_, _, _, _, _, _, _, _⟩ := box4 BK11
            go_wp2_with (first | (refine gL 137 (some 64) Tryz.func137 #[.int .i64 a0_1] ?_; (with_reducible refine (spec_l04Reg.calls a0_1 true _ A37.out).mono ?_); rintro e w' ⟨rfl, ⟨nd, rfl⟩⟩; refine ⟨_, rfl, ?_⟩))
            go_ret
            exact ⟨rfe, bels⟩
           ·rw [if_neg c39] at H
            have c39b0 : (a0_2 == 0) = false := beq_eq_false_iff_ne.mpr c39
            have c39b1 : (a0_2 != 0) = true := bne_iff_ne.mpr c39
            obtain rfl := oI H; obtain ⟨_, _, _, _, _, _, _, _⟩ := box4 BK11
            go_wp2_with (first | (refine gL 137 (some 64) Tryz.func137 #[.int .i64 a0_1] ?_; (with_reducible refine (spec_l04Reg.calls a0_1 true _ A37.out).mono ?_); rintro e w' ⟨rfl, ⟨nd, rfl⟩⟩; refine ⟨_, rfl, ?_⟩))
            go_ret
            exact ⟨rfe, bels⟩
          ·replace c38 := Bool.eq_false_iff.mpr c38; subst c38; rw [if_neg (by decide)] at H; obtain rfl := oI H; obtain ⟨_, _, _, _, _, _, _, _⟩ := box4 BK11
           go_wp2_with (first | (refine gL 137 (some 64) Tryz.func137 #[.int .i64 a0_1] ?_; (with_reducible refine (spec_l04Reg.calls a0_1 false _ A37.out).mono ?_); rintro e w' ⟨rfl, ⟨nd, rfl⟩⟩; refine ⟨_, rfl, ?_⟩))
           go_ret
           exact ⟨rfe, bels⟩
         ·rw [if_neg c36] at H
          have c36b0 : (a0_0 == 8) = false := beq_eq_false_iff_ne.mpr c36
          have c36b1 : (a0_0 != 8) = true := bne_iff_ne.mpr c36
          by_cases c43 : a0_0 = 10
          ·rw [if_pos c43] at H
           have c43b0 : (a0_0 == 10) = true := beq_iff_eq.mpr c43
           have c43b1 : (a0_0 != 10) = false := bne_eq_false_iff_eq.mpr c43
           clear c43; obtain ⟨t18, A44, H⟩ := bnd H; (try dsimp only at H)
           by_cases c45 : t18 = true
           ·subst c45; rw [if_pos rfl] at H; obtain ⟨t19, A46, H⟩ := bnd H; (try dsimp only at H)
            by_cases c47 : t19 = true
            ·subst c47; rw [if_pos rfl] at H; obtain rfl := oI H; obtain ⟨_, _, _, _, _, _, _, _⟩ := box4 BK11
             go_wp2_with (first | (refine gL 137 (some 79) Tryz.func137 #[.int .i64 a0_1] ?_; (with_reducible refine (spec_l04Reg.calls a0_1 true _ A44.out).mono ?_); rintro e w' ⟨rfl, ⟨nd, rfl⟩⟩; refine ⟨_, rfl, ?_⟩) | (go_at_call 59; (with_reducible refine (spec_l01In.calls a0_2 0 a1 true _ A46.out).mono ?_); rintro e w' ⟨rfl, ⟨nd, rfl⟩⟩))
             go_ret
             exact ⟨rfe, bels⟩
            ·replace c47 := Bool.eq_false_iff.mpr c47; subst c47; rw [if_neg (by decide)] at H; obtain rfl := oI H; obtain ⟨_, _, _, _, _, _, _, _⟩ := box4 BK11
             go_wp2_with (first | (refine gL 137 (some 79) Tryz.func137 #[.int .i64 a0_1] ?_; (with_reducible refine (spec_l04Reg.calls a0_1 true _ A44.out).mono ?_); rintro e w' ⟨rfl, ⟨nd, rfl⟩⟩; refine ⟨_, rfl, ?_⟩) | (go_at_call 59; (with_reducible refine (spec_l01In.calls a0_2 0 a1 false _ A46.out).mono ?_); rintro e w' ⟨rfl, ⟨nd, rfl⟩⟩))
             go_ret
             exact ⟨rfe, bels⟩
           ·replace c45 := Bool.eq_false_iff.mpr c45; subst c45; rw [if_neg (by decide)] at H; obtain rfl := oI H; obtain ⟨_, _, _, _, _, _, _, _⟩ := box4 BK11
            go_wp2_with (first | (refine gL 137 (some 79) Tryz.func137 #[.int .i64 a0_1] ?_; (with_reducible refine (spec_l04Reg.calls a0_1 false _ A44.out).mono ?_); rintro e w' ⟨rfl, ⟨nd, rfl⟩⟩; refine ⟨_, rfl, ?_⟩))
            go_ret
            exact ⟨rfe, bels⟩
          ·rw [if_neg c43] at H
           have c43b0 : (a0_0 == 10) = false := beq_eq_false_iff_ne.mpr c43
           have c43b1 : (a0_0 != 10) = true := bne_iff_ne.mpr c43
           by_cases c51 : a0_0 = 11
           ·rw [if_pos c51] at H
            have c51b0 : (a0_0 == 11) = true := beq_iff_eq.mpr c51
            have c51b1 : (a0_0 != 11) = false := bne_eq_false_iff_eq.mpr c51
            clear c51
            by_cases c52 : a0_1 = 0
            ·rw [if_pos c52] at H
             have c52b0 : (a0_1 == 0) = true := beq_iff_eq.mpr c52
             have c52b1 : (a0_1 != 0) = false := bne_eq_false_iff_eq.mpr c52
             clear c52; obtain ⟨t20, A53, H⟩ := bnd H; (try dsimp only at H)
             by_cases c54 : t20 = true
             ·subst c54; rw [if_pos rfl] at H; obtain rfl := oI H; obtain ⟨_, _, _, _, _, _, _, _⟩ := box4 BK11
              go_wp2_with (first | (go_at_call 59; (with_reducible refine (spec_l01In.calls a0_2 0 a1 true _ A53.out).mono ?_); rintro e w' ⟨rfl, ⟨nd, rfl⟩⟩))
              go_ret
              exact ⟨rfe, bels⟩
             ·replace c54 := Bool.eq_false_iff.mpr c54; subst c54; rw [if_neg (by decide)] at H; obtain rfl := oI H; obtain ⟨_, _, _, _, _, _, _, _⟩ := box4 BK11
              go_wp2_with (first | (go_at_call 59; (with_reducible refine (spec_l01In.calls a0_2 0 a1 false _ A53.out).mono ?_); rintro e w' ⟨rfl, ⟨nd, rfl⟩⟩))
              go_ret
              exact ⟨rfe, bels⟩
            ·rw [if_neg c52] at H
             have c52b0 : (a0_1 == 0) = false := beq_eq_false_iff_ne.mpr c52
             have c52b1 : (a0_1 != 0) = true := bne_iff_ne.mpr c52
             obtain rfl := oI H; obtain ⟨_, _, _, _, _, _, _, _⟩ := box4 BK11
             go_wp2
             go_ret
             exact ⟨rfe, bels⟩
           ·rw [if_neg c51] at H
            have c51b0 : (a0_0 == 11) = false := beq_eq_false_iff_ne.mpr c51
            have c51b1 : (a0_0 != 11) = true := bne_iff_ne.mpr c51
            obtain ⟨t21, A58, H⟩ := bnd H; (try dsimp only at H)
            by_cases c59 : t21 = true
            ·subst c59; rw [if_pos rfl] at H; obtain ⟨t22, A60, H⟩ := bnd H; (try dsimp only at H)
             by_cases c61 : t22 = true
             ·subst c61; rw [if_pos rfl] at H; obtain ⟨t23, A62, H⟩ := bnd H; (try dsimp only at H)
              by_cases c63 : t23 = true
              ·subst c63; rw [if_pos rfl] at H; obtain ⟨t24, A64, H⟩ := bnd H; (try dsimp only at H); obtain rfl := oI H; obtain ⟨_, _, _, _, _, _, _, _⟩ := box4 BK11
               go_wp2_with (first | (refine gL 59 (some 109) Tryz.func59 #[.int .i64 a0_0, .int .i64 3, .int .i64 9] ?_; (with_reducible refine (spec_l01In.calls a0_0 3 9 true _ A58.out).mono ?_); rintro e w' ⟨rfl, ⟨nd, rfl⟩⟩; refine ⟨_, rfl, ?_⟩) | (go_at_call 137; (with_reducible refine (spec_l04Reg.calls a0_1 true _ A60.out).mono ?_); rintro e w' ⟨rfl, ⟨nd, rfl⟩⟩) | (go_at_call 137; (with_reducible refine (spec_l04Reg.calls a0_2 true _ A62.out).mono ?_); rintro e w' ⟨rfl, ⟨nd, rfl⟩⟩) | (go_at_call 137; (with_reducible refine (spec_l04Reg.calls a0_3 t24 _ A64.out).mono ?_); rintro e w' ⟨rfl, ⟨nd, rfl⟩⟩))
               go_ret
               exact ⟨rfe, bels⟩
              ·replace c63 := Bool.eq_false_iff.mpr c63; subst c63; rw [if_neg (by decide)] at H; obtain rfl := oI H; obtain ⟨_, _, _, _, _, _, _, _⟩ := box4 BK11
               go_wp2_with (first | (refine gL 59 (some 109) Tryz.func59 #[.int .i64 a0_0, .int .i64 3, .int .i64 9] ?_; (with_reducible refine (spec_l01In.calls a0_0 3 9 true _ A58.out).mono ?_); rintro e w' ⟨rfl, ⟨nd, rfl⟩⟩; refine ⟨_, rfl, ?_⟩) | (go_at_call 137; (with_reducible refine (spec_l04Reg.calls a0_1 true _ A60.out).mono ?_); rintro e w' ⟨rfl, ⟨nd, rfl⟩⟩) | (go_at_call 137; (with_reducible refine (spec_l04Reg.calls a0_2 false _ A62.out).mono ?_); rintro e w' ⟨rfl, ⟨nd, rfl⟩⟩))
               go_ret
               exact ⟨rfe, bels⟩
             ·replace c61 := Bool.eq_false_iff.mpr c61; subst c61; rw [if_neg (by decide)] at H; obtain rfl := oI H; obtain ⟨_, _, _, _, _, _, _, _⟩ := box4 BK11
              go_wp2_with (first | (refine gL 59 (some 109) Tryz.func59 #[.int .i64 a0_0, .int .i64 3, .int .i64 9] ?_; (with_reducible refine (spec_l01In.calls a0_0 3 9 true _ A58.out).mono ?_); rintro e w' ⟨rfl, ⟨nd, rfl⟩⟩; refine ⟨_, rfl, ?_⟩) | (go_at_call 137; (with_reducible refine (spec_l04Reg.calls a0_1 false _ A60.out).mono ?_); rintro e w' ⟨rfl, ⟨nd, rfl⟩⟩))
              go_ret
              exact ⟨rfe, bels⟩
            ·replace c59 := Bool.eq_false_iff.mpr c59; subst c59; rw [if_neg (by decide)] at H; obtain rfl := oI H; obtain ⟨_, _, _, _, _, _, _, _⟩ := box4 BK11
             go_wp2_with (first | (refine gL 59 (some 109) Tryz.func59 #[.int .i64 a0_0, .int .i64 3, .int .i64 9] ?_; (with_reducible refine (spec_l01In.calls a0_0 3 9 false _ A58.out).mono ?_); rintro e w' ⟨rfl, ⟨nd, rfl⟩⟩; refine ⟨_, rfl, ?_⟩))
             go_ret
             exact ⟨rfe, bels⟩
 ·replace c4 := Bool.eq_false_iff.mpr c4; subst c4; rw [if_neg (by decide)] at H; obtain rfl := oI H
  go_enter Tryz.func100, Tryz.ntmps100
  go_wp2_with (first | (refine bxe 2 #[.int .i64 a0_0, .int .i64 a0_1, .int .i64 a0_2, .int .i64 a0_3] 95 ?_; intro gb11 hg w69 hbox hb; have BK11 := Aside0.mk (hbox); have GW11 := Aside0.mk (gwe hg : w.heap.size ≤ _); have GE11 := GW11; replace HB := hbs hb; clear hb hbox hg) | (refine gL 59 (some 6) Tryz.func59 #[.int .i64 a1, .int .i64 0, .int .i64 32] ?_; (with_reducible refine (spec_l01In.calls a1 0 32 false _ A3.out).mono ?_); rintro e w' ⟨rfl, ⟨nd, rfl⟩⟩; refine ⟨_, rfl, ?_⟩))
  go_ret
  exact ⟨rfe, bels⟩

/-! ### spec_ProgramOk: function 58 -/
def spec_ProgramOk.l0 : Nat → List (S95) → Int → Option (Bool)
 | 0, _, _ => none
 | k + 1, x0, x3 => if x3 < (x0.length : Int) then (if 0 ≤ x3 then ((spec_InsOk.f k ((rd_T95 x0 x3).f0) ((rd_T95 x0 x3).f1) ((rd_T95 x0 x3).f2) ((rd_T95 x0 x3).f3) (x0.length : Int)).bind fun t12 => (if t12 = true then (spec_ProgramOk.l0 k x0 (wrap64 (x3 + 1))) else (some false))) else (none)) else (some (decide ((x0.length : Int) ≤ 32)))
def spec_ProgramOk.f (k : Nat) (l0 : List (S95)) : Option (Bool) := spec_ProgramOk.l0 k l0 0
set_option maxHeartbeats 8000000 in
set_option maxRecDepth 100000 in
theorem spec_ProgramOk.calls (k : Nat) (A0 : Option Addr) (c0 : Nat) (l0 : List (S95)) (r : Bool) (w : World) (hr0 : Kd.C k95 w A0 l0.length l0) (hc0 : l0.length ≤ c0) (h : spec_ProgramOk.f k l0 = some r) :
  Calls Tryz.prog 58 #[.slice A0 l0.length c0] w fun e w' => e = .returned (.bool r) ∧ Below w.heap.size w w' := by
 have hu95 := Tryz.underlying95; have HR0 := Aside0.mk hr0; have HC0 := Aside0.mk hc0; clear hr0 hc0; have HB := Aside0.mk (Below.refl w.heap.size w)
 have H : (spec_ProgramOk.l0 k l0 0) = some r := h
 clear h
 have H' := Aside0.mk H
 clear H
 go_enter Tryz.func58, Tryz.ntmps58
 go_wp2
 go_loopg [3] k (fun kq v3 w' => ∃ (x3_1 : Int), v3 = .int .i64 x3_1 ∧ Aside0 (spec_ProgramOk.l0 kq l0 x3_1 = some r) ∧ Aside0 (kq ≤ k) ∧ Aside0 (Below w.heap.size w w'))
 case atStart => exact ⟨(0), rfx, H', ⟨Nat.le_refl _⟩, ⟨bels⟩⟩
 case round =>
  clear H'; obtain ⟨x3_1, rfl, HA, HK1, HB⟩ := hrel
  cases gk with
  | zero => exact absurd HA.out (by simp [spec_ProgramOk.l0])
  | succ k1 =>
   have H := HA.out; clear HA
   simp only [spec_ProgramOk.l0] at H
   by_cases c2 : x3_1 < (l0.length : Int)
   ·rw [if_pos c2] at H
    have c2b0 := decide_eq_true c2
    clear c2
    obtain ⟨c3, H⟩ := ifS H
    have c3b0 := decide_eq_true c3
    clear c3; obtain ⟨t12, A4, H⟩ := bnd H; (try dsimp only at H)
    by_cases c5 : t12 = true
    ·subst c5; rw [if_pos rfl] at H
     have H' := Aside0.mk H
     clear H
     have p11 : 0 ≤ (x3_1 : Int) := pq0
     have q11 : x3_1 < (l0.length : Int) := pq0
     obtain ⟨ad11, e11, hx11_0, hx11_1, hx11_2, hx11_3⟩ := at_T95 HR0.out x3_1 p11 q11
     cases e11
     replace hx11_0 := hxb hx11_0; replace hx11_1 := hxb hx11_1; replace hx11_2 := hxb hx11_2; replace hx11_3 := hxb hx11_3; replace p11 := eq_true p11; replace q11 := eq_true q11
     go_wp2_with (first | (refine gL 100 (some 16) Tryz.func100 #[.agg #[.int .i64 ((rd_T95 l0 x3_1).f0), .int .i64 ((rd_T95 l0 x3_1).f1), .int .i64 ((rd_T95 l0 x3_1).f2), .int .i64 ((rd_T95 l0 x3_1).f3)], .int .i64 (l0.length : Int)] ?_; (with_reducible refine (spec_InsOk.calls k1 ((rd_T95 l0 x3_1).f0) ((rd_T95 l0 x3_1).f1) ((rd_T95 l0 x3_1).f2) ((rd_T95 l0 x3_1).f3) (l0.length : Int) true _ A4.out).mono ?_); rintro e w6 ⟨rfl, hb⟩; refine ⟨_, rfl, ?_⟩; replace HB := hbs hb; clear hb))
     go_roundg k1
     case measure => have := HK1.out; omega
     case rel => exact ⟨(wrap64 (x3_1 + 1)), rfx, H', ⟨by have := HK1.out; omega⟩, ⟨bels⟩⟩
    ·replace c5 := Bool.eq_false_iff.mpr c5; subst c5; rw [if_neg (by decide)] at H; obtain rfl := oI H
     have p11 : 0 ≤ (x3_1 : Int) := pq0
     have q11 : x3_1 < (l0.length : Int) := pq0
     obtain ⟨ad11, e11, hx11_0, hx11_1, hx11_2, hx11_3⟩ := at_T95 HR0.out x3_1 p11 q11
     cases e11
     replace hx11_0 := hxb hx11_0; replace hx11_1 := hxb hx11_1; replace hx11_2 := hxb hx11_2; replace hx11_3 := hxb hx11_3; replace p11 := eq_true p11; replace q11 := eq_true q11
     go_wp2_with (first | (refine gL 100 (some 16) Tryz.func100 #[.agg #[.int .i64 ((rd_T95 l0 x3_1).f0), .int .i64 ((rd_T95 l0 x3_1).f1), .int .i64 ((rd_T95 l0 x3_1).f2), .int .i64 ((rd_T95 l0 x3_1).f3)], .int .i64 (l0.length : Int)] ?_; (with_reducible refine (spec_InsOk.calls k1 ((rd_T95 l0 x3_1).f0) ((rd_T95 l0 x3_1).f1) ((rd_T95 l0 x3_1).f2) ((rd_T95 l0 x3_1).f3) (l0.length : Int) false _ A4.out).mono ?_); rintro e w7 ⟨rfl, hb⟩; refine ⟨_, rfl, ?_⟩; replace HB := hbs hb; clear hb))
     go_ret
     exact ⟨rfe, bels⟩
   ·rw [if_neg c2] at H
    have c2b0 := decide_eq_false c2
    clear c2; obtain rfl := oI H
    go_wp2
    go_ret
    exact ⟨rfe, bels⟩

/-! ### spec_AreWords: function 60 -/
def spec_AreWords.l0 : Nat → List Int → Int → Option (Bool)
 | 0, _, _ => none
 | k + 1, x0, x3 => if x3 < (x0.length : Int) then (if 0 ≤ x3 then ((spec_IsWord.f (rd x0 x3)).bind fun t12 => (if t12 = true then (spec_AreWords.l0 k x0 (wrap64 (x3 + 1))) else (some false))) else (none)) else (some true)
def spec_AreWords.f (k : Nat) (l0 : List Int) : Option (Bool) := spec_AreWords.l0 k l0 0
set_option maxHeartbeats 8000000 in
set_option maxRecDepth 100000 in
theorem spec_AreWords.calls (k : Nat) (A0 : Option Addr) (c0 : Nat) (l0 : List Int) (r : Bool) (w : World) (hr0 : Kd.C (Kd.int .i64) w A0 l0.length l0) (hc0 : l0.length ≤ c0) (h : spec_AreWords.f k l0 = some r) :
  Calls Tryz.prog 60 #[.slice A0 l0.length c0] w fun e w' => e = .returned (.bool r) ∧ Drawn0 w w' := by
 have HR0 := Aside0.mk hr0; have HC0 := Aside0.mk hc0; clear hr0 hc0
 have H : (spec_AreWords.l0 k l0 0) = some r := h
 clear h
 have H' := Aside0.mk H
 clear H
 go_enter Tryz.func60, Tryz.ntmps60
 go_wp2
 go_loopg [3] k (fun kq v3 w' => ∃ (x3_1 : Int), v3 = .int .i64 x3_1 ∧ Aside0 (spec_AreWords.l0 kq l0 x3_1 = some r) ∧ Aside0 (kq ≤ k) ∧ Drawn0 w w')
 case atStart => exact ⟨(0), rfx, H', ⟨Nat.le_refl _⟩, by repeat (first | exact Drawn0.refl _ | apply Drawn0.step)⟩
 case round =>
  clear H'; obtain ⟨x3_1, rfl, HA, HK1, ⟨m1, rfl⟩⟩ := hrel
  cases gk with
  | zero => exact absurd HA.out (by simp [spec_AreWords.l0])
  | succ k1 =>
   have H := HA.out; clear HA
   simp only [spec_AreWords.l0] at H
   by_cases c2 : x3_1 < (l0.length : Int)
   ·rw [if_pos c2] at H
    have c2b0 := decide_eq_true c2
    clear c2
    obtain ⟨c3, H⟩ := ifS H
    have c3b0 := decide_eq_true c3
    clear c3; obtain ⟨t12, A4, H⟩ := bnd H; (try dsimp only at H)
    by_cases c5 : t12 = true
    ·subst c5; rw [if_pos rfl] at H
     have H' := Aside0.mk H
     clear H
     obtain ⟨p11, q11, ad11, e11, hx11_0⟩ := pqa (fun (p_ : 0 ≤ (x3_1 : Int)) (q_ : x3_1 < (l0.length : Int)) => Kd.at_int HR0.out x3_1 p_ q_); cases e11
     go_wp2_with (first | (refine gL 101 (some 14) Tryz.func101 #[.int .i64 (rd l0 x3_1)] ?_; (with_reducible refine (spec_IsWord.calls (rd l0 x3_1) true _ A4.out).mono ?_); rintro e w' ⟨rfl, ⟨nd, rfl⟩⟩; refine ⟨_, rfl, ?_⟩))
     go_roundg k1
     case measure => have := HK1.out; omega
     case rel => exact ⟨(wrap64 (x3_1 + 1)), rfx, H', ⟨by have := HK1.out; omega⟩, by repeat (first | exact Drawn0.refl _ | apply Drawn0.step)⟩
    ·replace c5 := Bool.eq_false_iff.mpr c5; subst c5; rw [if_neg (by decide)] at H; obtain rfl := oI H
     obtain ⟨p11, q11, ad11, e11, hx11_0⟩ := pqa (fun (p_ : 0 ≤ (x3_1 : Int)) (q_ : x3_1 < (l0.length : Int)) => Kd.at_int HR0.out x3_1 p_ q_); cases e11
     go_wp2_with (first | (refine gL 101 (some 14) Tryz.func101 #[.int .i64 (rd l0 x3_1)] ?_; (with_reducible refine (spec_IsWord.calls (rd l0 x3_1) false _ A4.out).mono ?_); rintro e w' ⟨rfl, ⟨nd, rfl⟩⟩; refine ⟨_, rfl, ?_⟩))
     go_ret
     exact ⟨by first | rfl | (simp; done) | (simp [*]; done), by repeat (first | exact Drawn0.refl _ | apply Drawn0.step)⟩
   ·rw [if_neg c2] at H
    have c2b0 := decide_eq_false c2
    clear c2; obtain rfl := oI H
    go_wp2
    go_ret
    exact ⟨by first | rfl | (simp; done) | (simp [*]; done), by repeat (first | exact Drawn0.refl _ | apply Drawn0.step)⟩

/-! ### spec_IsMask: function 102 -/
def spec_IsMask.f (a0 : Int) : Option (Bool) := (spec_l01In.f a0 0 255).bind fun t11 => (some t11)
set_option maxHeartbeats 8000000 in
set_option maxRecDepth 100000 in
theorem spec_IsMask.calls (a0 : Int) (r : Bool) (w : World) (h : spec_IsMask.f a0 = some r) :
  Calls Tryz.prog 102 #[.int .i64 a0] w fun e w' => e = .returned (.bool r) ∧ Drawn0 w w' := by
 have H : ((spec_l01In.f a0 0 255).bind fun t11 => (some t11)) = some r := h
 clear h; obtain ⟨t11, A2, H⟩ := bnd H; (try dsimp only at H); obtain rfl := oI H
 go_enter Tryz.func102, Tryz.ntmps102
 go_wp2_with (first | (refine gL 59 (some 4) Tryz.func59 #[.int .i64 a0, .int .i64 0, .int .i64 255] ?_; (with_reducible refine (spec_l01In.calls a0 0 255 t11 _ A2.out).mono ?_); rintro e w' ⟨rfl, ⟨nd, rfl⟩⟩; refine ⟨_, rfl, ?_⟩))
 go_ret
 exact ⟨by first | rfl | (simp; done) | (simp [*]; done), by repeat (first | exact Drawn0.refl _ | apply Drawn0.step)⟩

/-! ### spec_WarpOk: function 61 -/
mutual
def spec_WarpOk.j0 : Nat → List (S95) → Bool → Int → List (S132) → List Int → Option (Bool)
 | 0, _, _, _, _, _ => none
 | k + 1, x0, x33, x12000, x12001, x12002 => if x33 = true then (some false) else (spec_WarpOk.l0 k x0 0 x12000 x12001 x12002)
def spec_WarpOk.l0 : Nat → List (S95) → Int → Int → List (S132) → List Int → Option (Bool)
 | 0, _, _, _, _, _ => none
 | k + 1, x0, x5, x12000, x12001, x12002 => if x5 < (x12001.length : Int) then (if 0 ≤ x5 then ((spec_l01In.f ((rd_T132 x12001 x5).f0) 0 (x0.length : Int)).bind fun t17 => (if t17 = true then ((spec_l01In.f ((rd_T132 x12001 x5).f1) 0 (x0.length : Int)).bind fun t18 => (if t18 = true then ((spec_IsMask.f ((rd_T132 x12001 x5).f2)).bind fun t19 => (if t19 = true then (spec_WarpOk.j2 k x0 x5 (((rd_T132 x12001 x5).f2) == 0) x12000 x12001 x12002 ((rd_T132 x12001 x5).f0) ((rd_T132 x12001 x5).f1) ((rd_T132 x12001 x5).f2)) else (spec_WarpOk.j2 k x0 x5 true x12000 x12001 x12002 ((rd_T132 x12001 x5).f0) ((rd_T132 x12001 x5).f1) ((rd_T132 x12001 x5).f2)))) else (spec_WarpOk.j2 k x0 x5 true x12000 x12001 x12002 ((rd_T132 x12001 x5).f0) ((rd_T132 x12001 x5).f1) ((rd_T132 x12001 x5).f2)))) else (spec_WarpOk.j2 k x0 x5 true x12000 x12001 x12002 ((rd_T132 x12001 x5).f0) ((rd_T132 x12001 x5).f1) ((rd_T132 x12001 x5).f2)))) else (none)) else (some true)
def spec_WarpOk.j2 : Nat → List (S95) → Int → Bool → Int → List (S132) → List Int → Int → Int → Int → Option (Bool)
 | 0, _, _, _, _, _, _, _, _, _ => none
 | k + 1, x0, x5, x70, x12000, x12001, x12002, x17000, x17001, x17002 => if x70 = true then (some false) else (if x5 = 0 then (if x17001 = (x0.length : Int) then (if x17002 = 255 then (if x5 = (wrap64 ((x12001.length : Int) - 1)) then (if x17000 = x17001 then (some false) else (if x17000 = (x0.length : Int) then (some false) else (spec_WarpOk.l0 k x0 (wrap64 (x5 + 1)) x12000 x12001 x12002))) else (spec_WarpOk.l0 k x0 (wrap64 (x5 + 1)) x12000 x12001 x12002)) else (some false)) else (some false)) else (if x5 = (wrap64 ((x12001.length : Int) - 1)) then (if x17000 = x17001 then (some false) else (if x17000 = (x0.length : Int) then (some false) else (spec_WarpOk.l0 k x0 (wrap64 (x5 + 1)) x12000 x12001 x12002))) else (spec_WarpOk.l0 k x0 (wrap64 (x5 + 1)) x12000 x12001 x12002)))
end
def spec_WarpOk.f (k : Nat) (l0 : List (S95)) (a1_0 : Int) (l1_1 : List (S132)) (l1_2 : List Int) : Option (Bool) := (spec_ProgramOk.f k l0).bind fun t12 => (if t12 = true then ((spec_l01In.f a1_0 0 2).bind fun t13 => (if t13 = true then (if (l1_2.length : Int) = 32 then ((spec_AreWords.f k l1_2).bind fun t14 => (if t14 = true then (spec_WarpOk.j0 k l0 (decide ((l1_1.length : Int) > 24)) a1_0 l1_1 l1_2) else (spec_WarpOk.j0 k l0 true a1_0 l1_1 l1_2))) else (spec_WarpOk.j0 k l0 true a1_0 l1_1 l1_2)) else (spec_WarpOk.j0 k l0 true a1_0 l1_1 l1_2))) else (spec_WarpOk.j0 k l0 true a1_0 l1_1 l1_2))
set_option maxHeartbeats 8000000 in
set_option maxRecDepth 100000 in
theorem spec_WarpOk.calls (k : Nat) (A0 : Option Addr) (c0 : Nat) (l0 : List (S95)) (a1_0 : Int) (A1_1 : Option Addr) (c1_1 : Nat) (l1_1 : List (S132)) (A1_2 : Option Addr) (c1_2 : Nat) (l1_2 : List Int) (r : Bool) (w : World) (hr0 : Kd.C k95 w A0 l0.length l0) (hc0 : l0.length ≤ c0) (hr1_1 : Kd.C k132 w A1_1 l1_1.length l1_1) (hc1_1 : l1_1.length ≤ c1_1) (hr1_2 : Kd.C (Kd.int .i64) w A1_2 l1_2.length l1_2) (hc1_2 : l1_2.length ≤ c1_2) (h : spec_WarpOk.f k l0 a1_0 l1_1 l1_2 = some r) :
  Calls Tryz.prog 61 #[.slice A0 l0.length c0, .agg #[.int .i64 a1_0, .slice A1_1 l1_1.length c1_1, .slice A1_2 l1_2.length c1_2]] w fun e w' => e = .returned (.bool r) ∧ Below w.heap.size w w' := by
 have hu59 := Tryz.underlying59; have hu132 := Tryz.underlying132; have HR0 := Aside0.mk hr0; have HC0 := Aside0.mk hc0; clear hr0 hc0; have HR1_1 := Aside0.mk hr1_1; have HC1_1 := Aside0.mk hc1_1; clear hr1_1 hc1_1; have HR1_2 := Aside0.mk hr1_2; have HC1_2 := Aside0.mk hc1_2; clear hr1_2 hc1_2; have HB := Aside0.mk (Below.refl w.heap.size w)
 have H : ((spec_ProgramOk.f k l0).bind fun t12 => (if t12 = true then ((spec_l01In.f a1_0 0 2).bind fun t13 => (if t13 = true then (if (l1_2.length : Int) = 32 then ((spec_AreWords.f k l1_2).bind fun t14 => (if t14 = true then (spec_WarpOk.j0 k l0 (decide ((l1_1.length : Int) > 24)) a1_0 l1_1 l1_2) else (spec_WarpOk.j0 k l0 true a1_0 l1_1 l1_2))) else (spec_WarpOk.j0 k l0 true a1_0 l1_1 l1_2)) else (spec_WarpOk.j0 k l0 true a1_0 l1_1 l1_2))) else (spec_WarpOk.j0 k l0 true a1_0 l1_1 l1_2))) = some r := h
 clear h; have HC3 := Aside0.mk H; clear H
 go_enter Tryz.func61, Tryz.ntmps61
 go_upto_region 1 with (first | ((with_reducible refine gate_dst (N := 3) rfl ?_); (try (refine gate_guard (by rfl) ?_; dsimp only)); refine box_event ?hg (N := 3) ?hd (cs := #[.int .i64 a1_0, .slice A1_1 l1_1.length c1_1, .slice A1_2 l1_2.length c1_2]) (t := 59) ?hr ?_; (case hd => rfl); (case hg => rfl); (case hr => exact gs); intro gb11 hg w4 hbox hb; have BK11 := Aside0.mk (hbox); have GW11 := Aside0.mk (gwe hg : w.heap.size ≤ _); have GE11 := GW11; replace HB := hbs hb; clear hb hbox hg))
 (try simp only [Act.put, List.setIfInBounds_toArray, List.set_cons_zero, List.set_cons_succ])
 go_cut [33] (fun v33 wc => ∃ (kq : Nat) (x33_2 : Bool), v33 = .bool x33_2 ∧ Aside0 (spec_WarpOk.j0 kq l0 x33_2 a1_0 l1_1 l1_2 = some r) ∧ Aside0 (kq ≤ k) ∧ Aside0 (wc.heap[gb11]? = some (.cells #[.int .i64 a1_0, (.slice A1_1 l1_1.length c1_1), (.slice A1_2 l1_2.length c1_2)] 59 (0, 0))) ∧ Aside0 (Below w.heap.size w wc))
 case first =>
  have H := HC3.out; clear HC3; obtain ⟨t12, A5, H⟩ := bnd H; (try dsimp only at H)
  by_cases c6 : t12 = true
  ·subst c6; rw [if_pos rfl] at H; obtain ⟨t13, A7, H⟩ := bnd H; (try dsimp only at H)
   by_cases c8 : t13 = true
   ·subst c8; rw [if_pos rfl] at H
    by_cases c9 : (l1_2.length : Int) = 32
    ·rw [if_pos c9] at H
     have c9b0 : ((l1_2.length : Int) == 32) = true := beq_iff_eq.mpr c9
     have c9b1 : ((l1_2.length : Int) != 32) = false := bne_eq_false_iff_eq.mpr c9
     clear c9
     (first | rw [c9b0] | (simp only [i64_w, i32_w]; rw [c9b0]) | skip)
     obtain ⟨t14, A10, H⟩ := bnd H; (try dsimp only at H)
     by_cases c11 : t14 = true
     ·subst c11; rw [if_pos rfl] at H
      have H' := Aside0.mk H
      clear H
      go_wp2_with (first | (refine gL 58 (some 8) Tryz.func58 #[.slice A0 l0.length c0] ?_; refine (spec_ProgramOk.calls k _ _ l0 true _ (cb HR0) HC0.out A5.out).mono ?_; rintro e w12 ⟨rfl, hb⟩; refine ⟨_, rfl, ?_⟩; replace BK11 := kb BK11 hb; replace HB := hbs hb; clear hb; obtain ⟨_, _, _, _, _, _⟩ := box3 BK11) | (go_at_call 59; (with_reducible refine (spec_l01In.calls a1_0 0 2 true _ A7.out).mono ?_); rintro e w' ⟨rfl, ⟨nd, rfl⟩⟩) | (go_at_call 60; refine (spec_AreWords.calls k _ _ l1_2 true _ (cb HR1_2) HC1_2.out A10.out).mono ?_; rintro e w' ⟨rfl, ⟨nd, rfl⟩⟩))
      go_meet
      case rel => exact ⟨_, (decide ((l1_1.length : Int) > 24)), rfx, H', ⟨omx⟩, ⟨bk⟩, ⟨bels⟩⟩
     ·replace c11 := Bool.eq_false_iff.mpr c11; subst c11; rw [if_neg (by decide)] at H
      have H' := Aside0.mk H
      clear H
      go_wp2_with (first | (refine gL 58 (some 8) Tryz.func58 #[.slice A0 l0.length c0] ?_; refine (spec_ProgramOk.calls k _ _ l0 true _ (cb HR0) HC0.out A5.out).mono ?_; rintro e w14 ⟨rfl, hb⟩; refine ⟨_, rfl, ?_⟩; replace BK11 := kb BK11 hb; replace HB := hbs hb; clear hb; obtain ⟨_, _, _, _, _, _⟩ := box3 BK11) | (go_at_call 59; (with_reducible refine (spec_l01In.calls a1_0 0 2 true _ A7.out).mono ?_); rintro e w' ⟨rfl, ⟨nd, rfl⟩⟩) | (go_at_call 60; refine (spec_AreWords.calls k _ _ l1_2 false _ (cb HR1_2) HC1_2.out A10.out).mono ?_; rintro e w' ⟨rfl, ⟨nd, rfl⟩⟩))
      go_meet
      case rel => exact ⟨_, (true), rfx, H', ⟨omx⟩, ⟨bk⟩, ⟨bels⟩⟩
    ·rw [if_neg c9] at H
     have c9b0 : ((l1_2.length : Int) == 32) = false := beq_eq_false_iff_ne.mpr c9
     have c9b1 : ((l1_2.length : Int) != 32) = true := bne_iff_ne.mpr c9
     (first | rw [c9b0] | (simp only [i64_w, i32_w]; rw [c9b0]) | skip)
     have H' := Aside0.mk H
     clear H
     go_wp2_with (first | (refine gL 58 (some 8) Tryz.func58 #[.slice A0 l0.length c0] ?_; refine (spec_ProgramOk.calls k _ _ l0 true _ (cb HR0) HC0.out A5.out).mono ?_; rintro e w16 ⟨rfl, hb⟩; refine ⟨_, rfl, ?_⟩; replace BK11 := kb BK11 hb; replace HB := hbs hb; clear hb; obtain ⟨_, _, _, _, _, _⟩ := box3 BK11) | (go_at_call 59; (with_reducible refine (spec_l01In.calls a1_0 0 2 true _ A7.out).mono ?_); rintro e w' ⟨rfl, ⟨nd, rfl⟩⟩))
     go_meet
     case rel => exact ⟨_, (true), rfx, H', ⟨omx⟩, ⟨bk⟩, ⟨bels⟩⟩
   ·replace c8 := Bool.eq_false_iff.mpr c8; subst c8; rw [if_neg (by decide)] at H
    have H' := Aside0.mk H
    clear H
    go_wp2_with (first | (refine gL 58 (some 8) Tryz.func58 #[.slice A0 l0.length c0] ?_; refine (spec_ProgramOk.calls k _ _ l0 true _ (cb HR0) HC0.out A5.out).mono ?_; rintro e w18 ⟨rfl, hb⟩; refine ⟨_, rfl, ?_⟩; replace BK11 := kb BK11 hb; replace HB := hbs hb; clear hb; obtain ⟨_, _, _, _, _, _⟩ := box3 BK11) | (go_at_call 59; (with_reducible refine (spec_l01In.calls a1_0 0 2 false _ A7.out).mono ?_); rintro e w' ⟨rfl, ⟨nd, rfl⟩⟩))
    go_meet
    case rel => exact ⟨_, (true), rfx, H', ⟨omx⟩, ⟨bk⟩, ⟨bels⟩⟩
  ·replace c6 := Bool.eq_false_iff.mpr c6; subst c6; rw [if_neg (by decide)] at H
   have H' := Aside0.mk H
   clear H
   go_wp2_with (first | (refine gL 58 (some 8) Tryz.func58 #[.slice A0 l0.length c0] ?_; refine (spec_ProgramOk.calls k _ _ l0 false _ (cb HR0) HC0.out A5.out).mono ?_; rintro e w20 ⟨rfl, hb⟩; refine ⟨_, rfl, ?_⟩; replace BK11 := kb BK11 hb; replace HB := hbs hb; clear hb))
   go_meet
   case rel => exact ⟨_, (true), rfx, H', ⟨omx⟩, ⟨bk⟩, ⟨bels⟩⟩
 case rest =>
  clear HC3
  try clear c1
  try clear p2
  try clear c5
  try clear c6
  try clear c8
  try clear c9
  try clear c9b0
  try clear c9b1
  try clear c11
  obtain ⟨kq, x33_2, rfl, HA, HJ2, BK11, HB⟩ := hcut
  cases kq with
  | zero => exact absurd HA.out (by simp [spec_WarpOk.j0])
  | succ kj2 =>
   have H := HA.out; clear HA
   simp only [spec_WarpOk.j0] at H
   by_cases c21 : x33_2 = true
   ·subst c21; rw [if_pos rfl] at H; obtain rfl := oI H
    go_wp2
    go_ret
    exact ⟨rfe, bels⟩
   ·replace c21 := Bool.eq_false_iff.mpr c21; subst c21; rw [if_neg (by decide)] at H
    have H' := Aside0.mk H
    clear H
    go_wp2
    go_loopg [5] kj2 (fun kq v5 w' => ∃ (x5_2 : Int), v5 = .int .i64 x5_2 ∧ Aside0 (spec_WarpOk.l0 kq l0 x5_2 a1_0 l1_1 l1_2 = some r) ∧ Aside0 (kq ≤ kj2) ∧ Aside0 (w'.heap[gb11]? = some (.cells #[.int .i64 a1_0, (.slice A1_1 l1_1.length c1_1), (.slice A1_2 l1_2.length c1_2)] 59 (0, 0))) ∧ Aside0 (Below w.heap.size w w'))
    case atStart => exact ⟨(0), rfx, H', ⟨Nat.le_refl _⟩, ⟨bk⟩, ⟨bels⟩⟩
    case round =>
     clear H'
     try clear c1
     try clear c2
     try clear p2
     try clear c5
     try clear c6
     try clear c8
     try clear c9
     try clear c9b0
     try clear c9b1
     try clear c11
     try clear c21
     try clear p2
     obtain ⟨x5_2, rfl, HA, HK2, BK11, HB⟩ := hrel
     cases gk with
     | zero => exact absurd HA.out (by simp [spec_WarpOk.l0])
     | succ k2 =>
      have H := HA.out; clear HA
      simp only [spec_WarpOk.l0] at H
      by_cases c22 : x5_2 < (l1_1.length : Int)
      ·rw [if_pos c22] at H
       have c22b0 := decide_eq_true c22
       clear c22
       obtain ⟨c23, H⟩ := ifS H
       have c23b0 := decide_eq_true c23
       clear c23; have HC24 := Aside0.mk H; clear H; obtain ⟨_, _, _, _, _, _⟩ := box3 BK11
       have p15 : 0 ≤ (x5_2 : Int) := pq0
       have q15 : x5_2 < (l1_1.length : Int) := pq0
       obtain ⟨ad15, e15, hx15_0, hx15_1, hx15_2⟩ := at_T132 HR1_1.out x5_2 p15 q15
       cases e15
       replace hx15_0 := hxb hx15_0; replace hx15_1 := hxb hx15_1; replace hx15_2 := hxb hx15_2; replace p15 := eq_true p15; replace q15 := eq_true q15
       go_upto_region 7 with (first | ((with_reducible refine gate_dst (N := 6) rfl ?_); (try (refine gate_guard (by rfl) ?_; dsimp only)); refine box_event ?hg (N := 6) ?hd (cs := #[.int .i64 0, .int .i64 0, .int .i64 0]) (t := 132) ?hr ?_; (case hd => rfl); (case hg => rfl); (case hr => exact gs); intro gb16 hg w26 hbox hb; have BK16 := Aside0.mk (hbox); have GW16 := Aside0.mk (gwe hg : w.heap.size ≤ _); have GE16 := GW16; have NB11_16 := Aside0.mk (nbl hg BK11); have NB16_11 := Aside0.mk (nbg hg BK11); replace BK11 := kb BK11 hb; replace HB := hbs hb; clear hb hbox hg; have hnb27 := NB16_11.out; have hnc27 := NB11_16.out; obtain ⟨_, _, _, _, _, _⟩ := box3 BK16))
       (try simp only [Act.put, List.setIfInBounds_toArray, List.set_cons_zero, List.set_cons_succ])
       go_cut [70] (fun v70 wc => ∃ (kq : Nat) (x70_23 : Bool), v70 = .bool x70_23 ∧ Aside0 (spec_WarpOk.j2 kq l0 x5_2 x70_23 a1_0 l1_1 l1_2 ((rd_T132 l1_1 x5_2).f0) ((rd_T132 l1_1 x5_2).f1) ((rd_T132 l1_1 x5_2).f2) = some r) ∧ Aside0 (kq ≤ k2) ∧ Aside0 (wc.heap[gb11]? = some (.cells #[.int .i64 a1_0, (.slice (some ad15) l1_1.length c1_1), (.slice A1_2 l1_2.length c1_2)] 59 (0, 0))) ∧ Aside0 (wc.heap[gb16]? = some (.cells #[.int .i64 ((rd_T132 l1_1 x5_2).f0), .int .i64 ((rd_T132 l1_1 x5_2).f1), .int .i64 ((rd_T132 l1_1 x5_2).f2)] 132 (0, 0))) ∧ Aside0 (Below w.heap.size w wc))
       case first =>
        have H := HC24.out; clear HC24; obtain ⟨t17, A29, H⟩ := bnd H; (try dsimp only at H)
        by_cases c30 : t17 = true
        ·subst c30; rw [if_pos rfl] at H; obtain ⟨t18, A31, H⟩ := bnd H; (try dsimp only at H)
         by_cases c32 : t18 = true
         ·subst c32; rw [if_pos rfl] at H; obtain ⟨t19, A33, H⟩ := bnd H; (try dsimp only at H)
          by_cases c34 : t19 = true
          ·subst c34; rw [if_pos rfl] at H
           have H' := Aside0.mk H
           clear H; have hnb35 := NB16_11.out; have hnc35 := NB11_16.out; obtain ⟨_, _, _, _, _, _⟩ := box3 BK16
           go_wp2_with (first | (refine gL 59 (some 50) Tryz.func59 #[.int .i64 ((rd_T132 l1_1 x5_2).f0), .int .i64 0, .int .i64 (l0.length : Int)] ?_; (with_reducible refine (spec_l01In.calls ((rd_T132 l1_1 x5_2).f0) 0 (l0.length : Int) true _ A29.out).mono ?_); rintro e w' ⟨rfl, ⟨nd, rfl⟩⟩; refine ⟨_, rfl, ?_⟩) | (go_at_call 59; (with_reducible refine (spec_l01In.calls ((rd_T132 l1_1 x5_2).f1) 0 (l0.length : Int) true _ A31.out).mono ?_); rintro e w' ⟨rfl, ⟨nd, rfl⟩⟩) | (go_at_call 102; (with_reducible refine (spec_IsMask.calls ((rd_T132 l1_1 x5_2).f2) true _ A33.out).mono ?_); rintro e w' ⟨rfl, ⟨nd, rfl⟩⟩))
           go_meet
           case rel => exact ⟨_, ((((rd_T132 l1_1 x5_2).f2) == 0)), rfx, H', ⟨by have := HJ2.out; have := HK2.out; first | omega | exact Nat.le_refl _⟩, ⟨bk⟩, ⟨bkp⟩, ⟨bels⟩⟩
          ·replace c34 := Bool.eq_false_iff.mpr c34; subst c34; rw [if_neg (by decide)] at H
           have H' := Aside0.mk H
           clear H; have hnb37 := NB16_11.out; have hnc37 := NB11_16.out; obtain ⟨_, _, _, _, _, _⟩ := box3 BK16
           go_wp2_with (first | (refine gL 59 (some 50) Tryz.func59 #[.int .i64 ((rd_T132 l1_1 x5_2).f0), .int .i64 0, .int .i64 (l0.length : Int)] ?_; (with_reducible refine (spec_l01In.calls ((rd_T132 l1_1 x5_2).f0) 0 (l0.length : Int) true _ A29.out).mono ?_); rintro e w' ⟨rfl, ⟨nd, rfl⟩⟩; refine ⟨_, rfl, ?_⟩) | (go_at_call 59; (with_reducible refine (spec_l01In.calls ((rd_T132 l1_1 x5_2).f1) 0 (l0.length : Int) true _ A31.out).mono ?_); rintro e w' ⟨rfl, ⟨nd, rfl⟩⟩) | (go_at_call 102; (with_reducible refine (spec_IsMask.calls ((rd_T132 l1_1 x5_2).f2) false _ A33.out).mono ?_); rintro e w' ⟨rfl, ⟨nd, rfl⟩⟩))
           go_meet
           case rel => exact ⟨_, (true), rfx, H', ⟨by have := HJ2.out; have := HK2.out; first | omega | exact Nat.le_refl _⟩, ⟨bk⟩, ⟨bkp⟩, ⟨bels⟩⟩
         ·replace c32 := Bool.eq_false_iff.mpr c32; subst c32; rw [if_neg (by decide)] at H
          have H' := Aside0.mk H
          clear H; have hnb39 := NB16_11.out; have hnc39 := NB11_16.out; obtain ⟨_, _, _, _, _, _⟩ := box3 BK16
          go_wp2_with (first | (refine gL 59 (some 50) Tryz.func59 #[.int .i64 ((rd_T132 l1_1 x5_2).f0), .int .i64 0, .int .i64 (l0.length : Int)] ?_; (with_reducible refine (spec_l01In.calls ((rd_T132 l1_1 x5_2).f0) 0 (l0.length : Int) true _ A29.out).mono ?_); rintro e w' ⟨rfl, ⟨nd, rfl⟩⟩; refine ⟨_, rfl, ?_⟩) | (go_at_call 59; (with_reducible refine (spec_l01In.calls ((rd_T132 l1_1 x5_2).f1) 0 (l0.length : Int) false _ A31.out).mono ?_); rintro e w' ⟨rfl, ⟨nd, rfl⟩⟩))
          go_meet
          case rel => exact ⟨_, (true), rfx, H', ⟨by have := HJ2.out; have := HK2.out; first | omega | exact Nat.le_refl _⟩, ⟨bk⟩, ⟨bkp⟩, ⟨bels⟩⟩
        ·replace c30 := Bool.eq_false_iff.mpr c30; subst c30; rw [if_neg (by decide)] at H
         have H' := Aside0.mk H
         clear H; have hnb41 := NB16_11.out; have hnc41 := NB11_16.out; obtain ⟨_, _, _, _, _, _⟩ := box3 BK16
         go_wp2_with (first | (refine gL 59 (some 50) Tryz.func59 #[.int .i64 ((rd_T132 l1_1 x5_2).f0), .int .i64 0, .int .i64 (l0.length : Int)] ?_; (with_reducible refine (spec_l01In.calls ((rd_T132 l1_1 x5_2).f0) 0 (l0.length : Int) false _ A29.out).mono ?_); rintro e w' ⟨rfl, ⟨nd, rfl⟩⟩; refine ⟨_, rfl, ?_⟩))
         go_meet
         case rel => exact ⟨_, (true), rfx, H', ⟨by have := HJ2.out; have := HK2.out; first | omega | exact Nat.le_refl _⟩, ⟨bk⟩, ⟨bkp⟩, ⟨bels⟩⟩
       case rest =>
        clear HC24
        try clear c1
        try clear p1
        try clear q1
        try clear hx1
        try clear c2
        try clear p2
        try clear c3
        try clear c4
        try clear c5
        try clear c6
        try clear c8
        try clear c9
        try clear c9b0
        try clear c9b1
        try clear c11
        try clear p15
        try clear q15
        try clear hx15
        try clear c21
        try clear c22
        try clear c22b0
        try clear c23
        try clear c23b0
        try clear c27
        try clear c30
        try clear c32
        try clear c34
        try clear c35
        try clear c37
        try clear c39
        try clear c41
        try clear hx15_0
        try clear hx15_1
        try clear hx15_2
        try clear p15
        try clear p2
        try clear q15
        obtain ⟨kq, x70_23, rfl, HA, HJ23, BK11, BK16, HB⟩ := hcut
        cases kq with
        | zero => exact absurd HA.out (by simp [spec_WarpOk.j2])
        | succ kj23 =>
         have H := HA.out; clear HA
         simp only [spec_WarpOk.j2] at H
         by_cases c43 : x70_23 = true
         ·subst c43; rw [if_pos rfl] at H; obtain rfl := oI H
          go_wp2
          go_ret
          exact ⟨rfe, bels⟩
         ·replace c43 := Bool.eq_false_iff.mpr c43; subst c43; rw [if_neg (by decide)] at H
          by_cases c44 : x5_2 = 0
          ·rw [if_pos c44] at H
           have c44b0 : (x5_2 == 0) = true := beq_iff_eq.mpr c44
           have c44b1 : (x5_2 != 0) = false := bne_eq_false_iff_eq.mpr c44
           clear c44
           by_cases c45 : ((rd_T132 l1_1 x5_2).f1) = (l0.length : Int)
           ·rw [if_pos c45] at H
            have c45b0 : (((rd_T132 l1_1 x5_2).f1) == (l0.length : Int)) = true := beq_iff_eq.mpr c45
            have c45b1 : (((rd_T132 l1_1 x5_2).f1) != (l0.length : Int)) = false := bne_eq_false_iff_eq.mpr c45
            clear c45
            by_cases c46 : ((rd_T132 l1_1 x5_2).f2) = 255
            ·rw [if_pos c46] at H
             have c46b0 : (((rd_T132 l1_1 x5_2).f2) == 255) = true := beq_iff_eq.mpr c46
             have c46b1 : (((rd_T132 l1_1 x5_2).f2) != 255) = false := bne_eq_false_iff_eq.mpr c46
             clear c46
             by_cases c47 : x5_2 = (wrap64 ((l1_1.length : Int) - 1))
             ·rw [if_pos c47] at H
              have c47b0 : (x5_2 == (wrap64 ((l1_1.length : Int) - 1))) = true := beq_iff_eq.mpr c47
              have c47b1 : (x5_2 != (wrap64 ((l1_1.length : Int) - 1))) = false := bne_eq_false_iff_eq.mpr c47
              clear c47
              by_cases c48 : ((rd_T132 l1_1 x5_2).f0) = ((rd_T132 l1_1 x5_2).f1)
              ·rw [if_pos c48] at H
               have c48b0 : (((rd_T132 l1_1 x5_2).f0) == ((rd_T132 l1_1 x5_2).f1)) = true := beq_iff_eq.mpr c48
               have c48b1 : (((rd_T132 l1_1 x5_2).f0) != ((rd_T132 l1_1 x5_2).f1)) = false := bne_eq_false_iff_eq.mpr c48
               clear c48; obtain rfl := oI H; have hnb49 := NB16_11.out; have hnc49 := NB11_16.out; obtain ⟨_, _, _, _, _, _⟩ := box3 BK16; obtain ⟨_, _, _, _, _, _⟩ := box3 BK11
               go_wp2
               go_ret
               exact ⟨rfe, bels⟩
              ·rw [if_neg c48] at H
               have c48b0 : (((rd_T132 l1_1 x5_2).f0) == ((rd_T132 l1_1 x5_2).f1)) = false := beq_eq_false_iff_ne.mpr c48
               have c48b1 : (((rd_T132 l1_1 x5_2).f0) != ((rd_T132 l1_1 x5_2).f1)) = true := bne_iff_ne.mpr c48
               by_cases c52 : ((rd_T132 l1_1 x5_2).f0) = (l0.length : Int)
               ·rw [if_pos c52] at H
                have c52b0 : (((rd_T132 l1_1 x5_2).f0) == (l0.length : Int)) = true := beq_iff_eq.mpr c52
                have c52b1 : (((rd_T132 l1_1 x5_2).f0) != (l0.length : Int)) = false := bne_eq_false_iff_eq.mpr c52
                clear c52; obtain rfl := oI H; have hnb53 := NB16_11.out; have hnc53 := NB11_16.out; obtain ⟨_, _, _, _, _, _⟩ := box3 BK16; obtain ⟨_, _, _, _, _, _⟩ := box3 BK11
                go_wp2
                go_ret
                exact ⟨rfe, bels⟩
               ·rw [if_neg c52] at H
                have c52b0 : (((rd_T132 l1_1 x5_2).f0) == (l0.length : Int)) = false := beq_eq_false_iff_ne.mpr c52
                have c52b1 : (((rd_T132 l1_1 x5_2).f0) != (l0.length : Int)) = true := bne_iff_ne.mpr c52
                have H' := Aside0.mk H
                clear H; have hnb56 := NB16_11.out; have hnc56 := NB11_16.out; obtain ⟨_, _, _, _, _, _⟩ := box3 BK16; obtain ⟨_, _, _, _, _, _⟩ := box3 BK11
                go_wp2
                go_roundg kj23
                case measure => have := HJ2.out; have := HK2.out; have := HJ23.out; omega
                case rel => exact ⟨(wrap64 (x5_2 + 1)), rfx, H', ⟨by have := HJ2.out; have := HK2.out; have := HJ23.out; omega⟩, ⟨bk⟩, ⟨bels⟩⟩
             ·rw [if_neg c47] at H
              have c47b0 : (x5_2 == (wrap64 ((l1_1.length : Int) - 1))) = false := beq_eq_false_iff_ne.mpr c47
              have c47b1 : (x5_2 != (wrap64 ((l1_1.length : Int) - 1))) = true := bne_iff_ne.mpr c47
              have H' := Aside0.mk H
              clear H; have hnb59 := NB16_11.out; have hnc59 := NB11_16.out; obtain ⟨_, _, _, _, _, _⟩ := box3 BK16; obtain ⟨_, _, _, _, _, _⟩ := box3 BK11
              go_wp2
              go_roundg kj23
              case measure => have := HJ2.out; have := HK2.out; have := HJ23.out; omega
              case rel => exact ⟨(wrap64 (x5_2 + 1)), rfx, H', ⟨by have := HJ2.out; have := HK2.out; have := HJ23.out; omega⟩, ⟨bk⟩, ⟨bels⟩⟩
            ·rw [if_neg c46] at H
             have c46b0 : (((rd_T132 l1_1 x5_2).f2) == 255) = false := beq_eq_false_iff_ne.mpr c46
             have c46b1 : (((rd_T132 l1_1 x5_2).f2) != 255) = true := bne_iff_ne.mpr c46
             obtain rfl := oI H; have hnb62 := NB16_11.out; have hnc62 := NB11_16.out; obtain ⟨_, _, _, _, _, _⟩ := box3 BK16
             go_wp2
             go_ret
             exact ⟨rfe, bels⟩
           ·rw [if_neg c45] at H
            have c45b0 : (((rd_T132 l1_1 x5_2).f1) == (l0.length : Int)) = false := beq_eq_false_iff_ne.mpr c45
            have c45b1 : (((rd_T132 l1_1 x5_2).f1) != (l0.length : Int)) = true := bne_iff_ne.mpr c45
            obtain rfl := oI H; have hnb64 := NB16_11.out; have hnc64 := NB11_16.out; obtain ⟨_, _, _, _, _, _⟩ := box3 BK16
            go_wp2
            go_ret
            exact ⟨rfe, bels⟩
          ·rw [if_neg c44] at H
           have c44b0 : (x5_2 == 0) = false := beq_eq_false_iff_ne.mpr c44
           have c44b1 : (x5_2 != 0) = true := bne_iff_ne.mpr c44
           by_cases c66 : x5_2 = (wrap64 ((l1_1.length : Int) - 1))
           ·rw [if_pos c66] at H
            have c66b0 : (x5_2 == (wrap64 ((l1_1.length : Int) - 1))) = true := beq_iff_eq.mpr c66
            have c66b1 : (x5_2 != (wrap64 ((l1_1.length : Int) - 1))) = false := bne_eq_false_iff_eq.mpr c66
            clear c66
            by_cases c67 : ((rd_T132 l1_1 x5_2).f0) = ((rd_T132 l1_1 x5_2).f1)
            ·rw [if_pos c67] at H
             have c67b0 : (((rd_T132 l1_1 x5_2).f0) == ((rd_T132 l1_1 x5_2).f1)) = true := beq_iff_eq.mpr c67
             have c67b1 : (((rd_T132 l1_1 x5_2).f0) != ((rd_T132 l1_1 x5_2).f1)) = false := bne_eq_false_iff_eq.mpr c67
             clear c67; obtain rfl := oI H; have hnb68 := NB11_16.out; have hnc68 := NB16_11.out; obtain ⟨_, _, _, _, _, _⟩ := box3 BK11; obtain ⟨_, _, _, _, _, _⟩ := box3 BK16
             go_wp2
             go_ret
             exact ⟨rfe, bels⟩
            ·rw [if_neg c67] at H
             have c67b0 : (((rd_T132 l1_1 x5_2).f0) == ((rd_T132 l1_1 x5_2).f1)) = false := beq_eq_false_iff_ne.mpr c67
             have c67b1 : (((rd_T132 l1_1 x5_2).f0) != ((rd_T132 l1_1 x5_2).f1)) = true := bne_iff_ne.mpr c67
             by_cases c71 : ((rd_T132 l1_1 x5_2).f0) = (l0.length : Int)
             ·rw [if_pos c71] at H
              have c71b0 : (((rd_T132 l1_1 x5_2).f0) == (l0.length : Int)) = true := beq_iff_eq.mpr c71
              have c71b1 : (((rd_T132 l1_1 x5_2).f0) != (l0.length : Int)) = false := bne_eq_false_iff_eq.mpr c71
              clear c71; obtain rfl := oI H; have hnb72 := NB11_16.out; have hnc72 := NB16_11.out; obtain ⟨_, _, _, _, _, _⟩ := box3 BK11; obtain ⟨_, _, _, _, _, _⟩ := box3 BK16
              go_wp2
              go_ret
              exact ⟨rfe, bels⟩
             ·rw [if_neg c71] at H
              have c71b0 : (((rd_T132 l1_1 x5_2).f0) == (l0.length : Int)) = false := beq_eq_false_iff_ne.mpr c71
              have c71b1 : (((rd_T132 l1_1 x5_2).f0) != (l0.length : Int)) = true := bne_iff_ne.mpr c71
              have H' := Aside0.mk H
              clear H; have hnb75 := NB11_16.out; have hnc75 := NB16_11.out; obtain ⟨_, _, _, _, _, _⟩ := box3 BK11; obtain ⟨_, _, _, _, _, _⟩ := box3 BK16
              go_wp2
              go_roundg kj23
              case measure => have := HJ2.out; have := HK2.out; have := HJ23.out; omega
              case rel => exact ⟨(wrap64 (x5_2 + 1)), rfx, H', ⟨by have := HJ2.out; have := HK2.out; have := HJ23.out; omega⟩, ⟨bk⟩, ⟨bels⟩⟩
           ·rw [if_neg c66] at H
            have c66b0 : (x5_2 == (wrap64 ((l1_1.length : Int) - 1))) = false := beq_eq_false_iff_ne.mpr c66
            have c66b1 : (x5_2 != (wrap64 ((l1_1.length : Int) - 1))) = true := bne_iff_ne.mpr c66
            have H' := Aside0.mk H
            clear H; have hnb78 := NB11_16.out; have hnc78 := NB16_11.out; obtain ⟨_, _, _, _, _, _⟩ := box3 BK11
            go_wp2
            go_roundg kj23
            case measure => have := HJ2.out; have := HK2.out; have := HJ23.out; omega
            case rel => exact ⟨(wrap64 (x5_2 + 1)), rfx, H', ⟨by have := HJ2.out; have := HK2.out; have := HJ23.out; omega⟩, ⟨bk⟩, ⟨bels⟩⟩
      ·rw [if_neg c22] at H
       have c22b0 := decide_eq_false c22
       clear c22; obtain rfl := oI H; obtain ⟨_, _, _, _, _, _⟩ := box3 BK11
       go_wp2
       go_ret
       exact ⟨rfe, bels⟩

/-! ### spec_BlockOk: function 26 -/
mutual
def spec_BlockOk.j0 : Nat → Bool → List (S95) → List (S59) → List Int → Int → Int → Option (Bool)
 | 0, _, _, _, _, _, _ => none
 | k + 1, x43, x12000, x12001, x12002, x12003, x12004 => if x43 = true then (some false) else (spec_BlockOk.l0 k 0 x12000 x12001 x12002 x12003 x12004)
def spec_BlockOk.l0 : Nat → Int → List (S95) → List (S59) → List Int → Int → Int → Option (Bool)
 | 0, _, _, _, _, _, _ => none
 | k + 1, x3, x12000, x12001, x12002, x12003, x12004 => if x3 < (x12001.length : Int) then (if 0 ≤ x3 then ((spec_WarpOk.f k x12000 ((rd_T59 x12001 x3).f0) ((rd_T59 x12001 x3).f1) ((rd_T59 x12001 x3).f2)).bind fun t18 => (if t18 = true then (if ((rd_T59 x12001 x3).f0) = x3 then (spec_BlockOk.l0 k (wrap64 (x3 + 1)) x12000 x12001 x12002 x12003 x12004) else (some false)) else (some false))) else (none)) else (some true)
end
def spec_BlockOk.f (k : Nat) (l0_0 : List (S95)) (l0_1 : List (S59)) (l0_2 : List Int) (a0_3 : Int) (a0_4 : Int) : Option (Bool) := (spec_ProgramOk.f k l0_0).bind fun t12 => (if t12 = true then ((spec_l01In.f (l0_1.length : Int) 1 3).bind fun t13 => (if t13 = true then (if (l0_2.length : Int) = 32 then ((spec_AreWords.f k l0_2).bind fun t14 => (if t14 = true then ((spec_l01In.f a0_3 0 (wrap64 ((shl .i64 1 (l0_1.length : Int)) - 2))).bind fun t15 => (if t15 = true then ((spec_l01In.f a0_4 0 100000).bind fun t16 => (spec_BlockOk.j0 k (!t16) l0_0 l0_1 l0_2 a0_3 a0_4)) else (spec_BlockOk.j0 k true l0_0 l0_1 l0_2 a0_3 a0_4))) else (spec_BlockOk.j0 k true l0_0 l0_1 l0_2 a0_3 a0_4))) else (spec_BlockOk.j0 k true l0_0 l0_1 l0_2 a0_3 a0_4)) else (spec_BlockOk.j0 k true l0_0 l0_1 l0_2 a0_3 a0_4))) else (spec_BlockOk.j0 k true l0_0 l0_1 l0_2 a0_3 a0_4))
def spec_BlockOk.T1 : Bool × List (List Nat × List Nat) := (true, [([], []), ([0], [0]), ([1], [1]), ([2], [2]), ([3, 2], [3]), ([4], [4]), ([5, 4], [4, 5]), ([6, 4], [4, 6]), ([7, 4, 4], [4, 7]), ([8, 4], [4, 8]), ([4, 9], [4, 9]), ([10, 8], [10]), ([11], [11]), ([12, 11], [11, 12]), ([13, 11], [11, 13]), ([14, 11], [11, 14]), ([11, 15], [11, 15]), ([16, 11], [16]), ([17], [17]), ([18, 17], [17, 18]), ([19, 17, 17], [17, 19]), ([20, 17], [17, 20]), ([17, 21], [17, 21]), ([22, 20], [22]), ([23], [23]), ([24, 23], [23, 24]), ([23], [23]), ([26, 23], [23, 26]), ([27, 23], [23, 27]), ([28, 23], [23, 28]), ([29, 23], [23, 29]), ([25, 30, 23, 23], [23, 25, 30]), ([31, 23], [23, 31]), ([23, 32], [23, 32]), ([33, 31], [33]), ([34], [34]), ([35, 34], [34, 35]), ([36, 34, 34], [34, 36]), ([37, 34], [34, 37]), ([34, 38], [34, 38])])
def spec_BlockOk.B1 : List Nat := [0, 1, 3, 7, 15, 31, 63, 127, 255, 511, 1023, 2047, 4095, 8191, 16383, 32767, 65535, 131071, 262143, 524287, 1048575, 2097151, 4194303, 8388607, 16777215, 33554431, 16777215, 83886079, 218103807, 486539263, 1023410175, 2147483647, 4294967295, 8589934591, 17179869183, 34359738367, 68719476735, 137438953471, 274877906943, 549755813887]
theorem spec_BlockOk.tab1 : rtab .any (opsOf Tryz.f26 1) = spec_BlockOk.T1 := by kernel_rfl
theorem spec_BlockOk.bits1 : waitsOk spec_BlockOk.T1.2 spec_BlockOk.B1 = true := by kernel_rfl
def spec_BlockOk.T6 : Bool × List (List Nat × List Nat) := (true, [([], []), ([0], [0]), ([], []), ([2], [2]), ([], []), ([3, 4], [3, 4]), ([5], [5]), ([1, 6], [1, 6]), ([7], [7]), ([8, 7], [8]), ([9], [9]), ([10, 9], [9, 10]), ([9], [9]), ([11, 12, 9], [9, 11, 12]), ([13, 9], [9, 13]), ([14, 9], [9, 14]), ([9], [9]), ([15, 16, 9], [9, 15, 16]), ([9, 17], [9, 17])])
def spec_BlockOk.B6 : List Nat := [0, 1, 0, 4, 0, 28, 60, 127, 255, 511, 1023, 2047, 1023, 8191, 16383, 32767, 1023, 131071, 262143]
theorem spec_BlockOk.tab6 : rtab .any (opsOf Tryz.f26 6) = spec_BlockOk.T6 := by kernel_rfl
theorem spec_BlockOk.bits6 : waitsOk spec_BlockOk.T6.2 spec_BlockOk.B6 = true := by kernel_rfl
set_option maxHeartbeats 8000000 in
set_option maxRecDepth 100000 in
theorem spec_BlockOk.calls (k : Nat) (A0_0 : Option Addr) (c0_0 : Nat) (l0_0 : List (S95)) (A0_1 : Option Addr) (c0_1 : Nat) (l0_1 : List (S59)) (A0_2 : Option Addr) (c0_2 : Nat) (l0_2 : List Int) (a0_3 : Int) (a0_4 : Int) (r : Bool) (w : World) (hr0_0 : Kd.C k95 w A0_0 l0_0.length l0_0) (hc0_0 : l0_0.length ≤ c0_0) (hr0_1 : Kd.C k59 w A0_1 l0_1.length l0_1) (hc0_1 : l0_1.length ≤ c0_1) (hr0_2 : Kd.C (Kd.int .i64) w A0_2 l0_2.length l0_2) (hc0_2 : l0_2.length ≤ c0_2) (h : spec_BlockOk.f k l0_0 l0_1 l0_2 a0_3 a0_4 = some r) :
  Calls Tryz.prog 26 #[.agg #[.slice A0_0 l0_0.length c0_0, .slice A0_1 l0_1.length c0_1, .slice A0_2 l0_2.length c0_2, .int .i64 a0_3, .int .i64 a0_4]] w fun e w' => e = .returned (.bool r) ∧ Below w.heap.size w w' := by
 have hu33 := Tryz.underlying33; have hu59 := Tryz.underlying59; have HR0_0 := Aside0.mk hr0_0; have HC0_0 := Aside0.mk hc0_0; clear hr0_0 hc0_0; have HR0_1 := Aside0.mk hr0_1; have HC0_1 := Aside0.mk hc0_1; clear hr0_1 hc0_1; have HR0_2 := Aside0.mk hr0_2; have HC0_2 := Aside0.mk hc0_2; clear hr0_2 hc0_2; have HB := Aside0.mk (Below.refl w.heap.size w)
 have H : ((spec_ProgramOk.f k l0_0).bind fun t12 => (if t12 = true then ((spec_l01In.f (l0_1.length : Int) 1 3).bind fun t13 => (if t13 = true then (if (l0_2.length : Int) = 32 then ((spec_AreWords.f k l0_2).bind fun t14 => (if t14 = true then ((spec_l01In.f a0_3 0 (wrap64 ((shl .i64 1 (l0_1.length : Int)) - 2))).bind fun t15 => (if t15 = true then ((spec_l01In.f a0_4 0 100000).bind fun t16 => (spec_BlockOk.j0 k (!t16) l0_0 l0_1 l0_2 a0_3 a0_4)) else (spec_BlockOk.j0 k true l0_0 l0_1 l0_2 a0_3 a0_4))) else (spec_BlockOk.j0 k true l0_0 l0_1 l0_2 a0_3 a0_4))) else (spec_BlockOk.j0 k true l0_0 l0_1 l0_2 a0_3 a0_4)) else (spec_BlockOk.j0 k true l0_0 l0_1 l0_2 a0_3 a0_4))) else (spec_BlockOk.j0 k true l0_0 l0_1 l0_2 a0_3 a0_4))) = some r := h
 clear h; have HC2 := Aside0.mk H; clear H
 go_enter Tryz.func26, Tryz.ntmps26
 go_upto_region 1 with (first | ((with_reducible refine gate_dst (N := 1) rfl ?_); (try (refine gate_guard (by rfl) ?_; dsimp only)); refine box_event ?hg (N := 1) ?hd (cs := #[.slice A0_0 l0_0.length c0_0, .slice A0_1 l0_1.length c0_1, .slice A0_2 l0_2.length c0_2, .int .i64 a0_3, .int .i64 a0_4]) (t := 33) ?hr ?_; (case hd => rfl); (case hg => rfl); (case hr => exact gs); intro gb11 hg w3 hbox hb; have BK11 := Aside0.mk (hbox); have GW11 := Aside0.mk (gwe hg : w.heap.size ≤ _); have GE11 := GW11; replace HB := hbs hb; clear hb hbox hg))
 (try simp only [Act.put, List.setIfInBounds_toArray, List.set_cons_zero, List.set_cons_succ])
 go_cut [43] (fun v43 wc => ∃ (kq : Nat) (x43_1 : Bool), v43 = .bool x43_1 ∧ Aside0 (spec_BlockOk.j0 kq x43_1 l0_0 l0_1 l0_2 a0_3 a0_4 = some r) ∧ Aside0 (kq ≤ k) ∧ Aside0 (wc.heap[gb11]? = some (.cells #[(.slice A0_0 l0_0.length c0_0), (.slice A0_1 l0_1.length c0_1), (.slice A0_2 l0_2.length c0_2), .int .i64 a0_3, .int .i64 a0_4] 33 (0, 0))) ∧ Aside0 (Below w.heap.size w wc))
 case first =>
  have H := HC2.out; clear HC2; obtain ⟨t12, A4, H⟩ := bnd H; (try dsimp only at H)
  by_cases c5 : t12 = true
  ·subst c5; rw [if_pos rfl] at H; obtain ⟨t13, A6, H⟩ := bnd H; (try dsimp only at H)
   by_cases c7 : t13 = true
   ·subst c7; rw [if_pos rfl] at H
    by_cases c8 : (l0_2.length : Int) = 32
    ·rw [if_pos c8] at H
     have c8b0 : ((l0_2.length : Int) == 32) = true := beq_iff_eq.mpr c8
     have c8b1 : ((l0_2.length : Int) != 32) = false := bne_eq_false_iff_eq.mpr c8
     clear c8
     (first | rw [c8b0] | (simp only [i64_w, i32_w]; rw [c8b0]) | skip)
     obtain ⟨t14, A9, H⟩ := bnd H; (try dsimp only at H)
     by_cases c10 : t14 = true
     ·subst c10; rw [if_pos rfl] at H
      obtain ⟨ji11, hji11⟩ : ∃ j_ : Int, (shl .i64 1 (l0_1.length : Int)) = j_ := ⟨_, rfl⟩
      (first | rw [hji11] at H | simp only [hji11] at H)
      (try rw [hji11] at A4)
      (try rw [hji11] at A6)
      (try rw [hji11] at A9)
      have hji11_ : (IntKind.i64.wrap (1 * 2 ^ min (l0_1.length : Int).toNat 64)) = ji11 := hji11
      have hji11z : (l0_1.length : Int) ≤ 64 → (IntKind.i64.wrap (1 * 2 ^ (l0_1.length : Int).toNat)) = ji11 := shl_small hji11
      have hji11p : (IntKind.i64.wrap (1 * 2 ^ min l0_1.length 64)) = ji11 := hji11_
      have hji11q : (l0_1.length : Int) ≤ 64 → (IntKind.i64.wrap (1 * 2 ^ l0_1.length)) = ji11 := hji11z
      have hji11r : (IntKind.i64.wrap (2 ^ min l0_1.length 64)) = ji11 := by have h_ := hji11p; rw [Int.one_mul] at h_; exact h_
      have hji11s : (l0_1.length : Int) ≤ 64 → (IntKind.i64.wrap (2 ^ l0_1.length)) = ji11 := fun hle_ => by have h_ := hji11q hle_; rw [Int.one_mul] at h_; exact h_
      have hji11u : (IntKind.i64.wrap (2 ^ min (l0_1.length : Int).toNat 64)) = ji11 := by have h_ := hji11_; rw [Int.one_mul] at h_; exact h_
      have hji11v : (l0_1.length : Int) ≤ 64 → (IntKind.i64.wrap (2 ^ (l0_1.length : Int).toNat)) = ji11 := fun hle_ => by have h_ := hji11z hle_; rw [Int.one_mul] at h_; exact h_
      have hji11y : (wrap64 (1 * 2 ^ min (l0_1.length : Int).toNat 64)) = ji11 := (i64_w _).symm.trans hji11_
      have hji11x : (l0_1.length : Int) ≤ 64 → (wrap64 (1 * 2 ^ (l0_1.length : Int).toNat)) = ji11 := fun h_ => (i64_w _).symm.trans (hji11z h_)
      obtain ⟨t15, A12, H⟩ := bnd H; (try dsimp only at H)
      by_cases c13 : t15 = true
      ·subst c13; rw [if_pos rfl] at H; obtain ⟨t16, A14, H⟩ := bnd H; (try dsimp only at H)
       have H' := Aside0.mk H
       clear H
       try go_wp2
       replace BK11 := Aside0.mk (blk_drew BK11.out); replace HB := Aside0.mk (below_drew1 HB.out)
       refine start_ (n := 40) (S := fun w' => w'.cell? ⟨gb11, 0, none⟩ = some (.slice A0_0 l0_0.length c0_0) ∧ w'.cell? ⟨gb11, 1, none⟩ = some (.slice A0_1 l0_1.length c0_1) ∧ w'.cell? ⟨gb11, 2, none⟩ = some (.slice A0_2 l0_2.length c0_2) ∧ w'.cell? ⟨gb11, 3, none⟩ = some (.int .i64 a0_3) ∧ w'.cell? ⟨gb11, 4, none⟩ = some (.int .i64 a0_4)) (ds := []) _ (by kernel_rfl) rfl rfl ⟨bz BK11 0, bz BK11 1, bz BK11 2, bz BK11 3, bz BK11 4⟩ (fun hHeld => ?_); refine with_tabW spec_BlockOk.tab1 spec_BlockOk.bits1 (fun HT_ HW_ => ?_)
       generalize w3.drew = w15 at BK11 HB hHeld ⊢; refine pm 0 4 ?_; refine tm5 1 5 ?_; refine om 2 6 (fun K hK => ?_); refine goes_ Tryz.func58 (by kernel_rfl) rfl #[.slice A0_0 l0_0.length c0_0] (by rfl) rfl rfl slq ?_; refine (spec_ProgramOk.calls k _ _ l0_0 true _ (cb HR0_0) HC0_0.out A4.out).mono ?_; rintro e w16 ⟨rfl, hb⟩; refine ⟨_, rfl, ?_⟩; replace BK11 := kb BK11 hb; replace HB := hbs hb; clear hb; refine hK.out _ _ hd (fun hHeld => ?_); clear hK K; refine nm 6 ?_; refine wp 3 6 ?_; refine tm5 6 10 ?_; refine pm 7 11 ?_; refine om 8 12 (fun K hK => ?_); refine goes_ Tryz.func59 (by kernel_rfl) rfl #[.int .i64 (l0_1.length : Int), .int .i64 1, .int .i64 3] (by rfl) rfl rfl slq ?_; (with_reducible refine (spec_l01In.calls (l0_1.length : Int) 1 3 true _ A6.out).mono ?_); rintro e w' ⟨rfl, ⟨nd, rfl⟩⟩; refine ⟨_, rfl, ?_⟩; refine hK.out _ _ hd (fun hHeld => ?_); clear hK K; refine nm 12 ?_; refine wp 9 13 ?_; refine tm5 13 17 ?_; refine wp 14 19 ?_; refine tm5 19 23 ?_; refine om 20 24 (fun K hK => ?_); refine goes_ Tryz.func60 (by kernel_rfl) rfl #[.slice A0_2 l0_2.length c0_2] (by rfl) rfl rfl slq ?_; refine (spec_AreWords.calls k _ _ l0_2 true _ (cb HR0_2) HC0_2.out A9.out).mono ?_; rintro e w' ⟨rfl, ⟨nd, rfl⟩⟩; refine ⟨_, rfl, ?_⟩; refine hK.out _ _ hd (fun hHeld => ?_); clear hK K; refine nm 24 ?_; refine pm 21 25 ?_; refine pm 22 26 ?_; refine pm 23 27 ?_; refine pm 24 28 ?_; refine pm 26 30 ?_; refine tm5 25 29 ?_; refine tm5 27 31 ?_; refine wp 28 31 ?_; refine om 31 35 (fun K hK => ?_); refine goes_ Tryz.func59 (by kernel_rfl) rfl #[.int .i64 a0_3, .int .i64 0, .int .i64 (wrap64 ((ji11) - 2))] (by rfl) rfl rfl (by (try simp only [List.map_toArray, List.map_cons, List.map_nil]); first | done | (simp only [hji11]; rfl) | rfl | (simp only [List.length_drop, List.length_take]; rfl)) ?_; (with_reducible refine (spec_l01In.calls a0_3 0 (wrap64 ((ji11) - 2)) true _ A12.out).mono ?_); rintro e w' ⟨rfl, ⟨nd, rfl⟩⟩; refine ⟨_, rfl, ?_⟩; refine hK.out _ _ hd (fun hHeld => ?_); clear hK K; refine nm 35 ?_; refine wp 32 36 ?_; refine tm5 36 40 ?_; refine om 37 41 (fun K hK => ?_); refine goes_ Tryz.func59 (by kernel_rfl) rfl #[.int .i64 a0_4, .int .i64 0, .int .i64 100000] (by rfl) rfl rfl slq ?_
       (with_reducible refine (spec_l01In.calls a0_4 0 100000 t16 _ A14.out).mono ?_); rintro e w' ⟨rfl, ⟨nd, rfl⟩⟩; refine ⟨_, rfl, ?_⟩; refine hK.out _ _ hd (fun hHeld => ?_); clear hK K; refine nm 41 ?_; refine wp 38 40 ?_
       refine done_ (done_of HT_.out (by kernel_rfl)) ?_
       try go_wp2
       go_meet
       case rel => exact ⟨_, (!t16), rfx, H', ⟨omx⟩, ⟨bk⟩, ⟨bels⟩⟩
      ·replace c13 := Bool.eq_false_iff.mpr c13; subst c13; rw [if_neg (by decide)] at H
       have H' := Aside0.mk H
       clear H
       try go_wp2
       replace BK11 := Aside0.mk (blk_drew BK11.out); replace HB := Aside0.mk (below_drew1 HB.out)
       refine start_ (n := 40) (S := fun w' => w'.cell? ⟨gb11, 0, none⟩ = some (.slice A0_0 l0_0.length c0_0) ∧ w'.cell? ⟨gb11, 1, none⟩ = some (.slice A0_1 l0_1.length c0_1) ∧ w'.cell? ⟨gb11, 2, none⟩ = some (.slice A0_2 l0_2.length c0_2) ∧ w'.cell? ⟨gb11, 3, none⟩ = some (.int .i64 a0_3) ∧ w'.cell? ⟨gb11, 4, none⟩ = some (.int .i64 a0_4)) (ds := []) _ (by kernel_rfl) rfl rfl ⟨bz BK11 0, bz BK11 1, bz BK11 2, bz BK11 3, bz BK11 4⟩ (fun hHeld => ?_); refine with_tabW spec_BlockOk.tab1 spec_BlockOk.bits1 (fun HT_ HW_ => ?_)
       generalize w3.drew = w17 at BK11 HB hHeld ⊢; refine pm 0 4 ?_; refine tm5 1 5 ?_; refine om 2 6 (fun K hK => ?_); refine goes_ Tryz.func58 (by kernel_rfl) rfl #[.slice A0_0 l0_0.length c0_0] (by rfl) rfl rfl slq ?_; refine (spec_ProgramOk.calls k _ _ l0_0 true _ (cb HR0_0) HC0_0.out A4.out).mono ?_; rintro e w18 ⟨rfl, hb⟩; refine ⟨_, rfl, ?_⟩; replace BK11 := kb BK11 hb; replace HB := hbs hb; clear hb; refine hK.out _ _ hd (fun hHeld => ?_); clear hK K; refine nm 6 ?_; refine wp 3 6 ?_; refine tm5 6 10 ?_; refine pm 7 11 ?_; refine om 8 12 (fun K hK => ?_); refine goes_ Tryz.func59 (by kernel_rfl) rfl #[.int .i64 (l0_1.length : Int), .int .i64 1, .int .i64 3] (by rfl) rfl rfl slq ?_; (with_reducible refine (spec_l01In.calls (l0_1.length : Int) 1 3 true _ A6.out).mono ?_); rintro e w' ⟨rfl, ⟨nd, rfl⟩⟩; refine ⟨_, rfl, ?_⟩; refine hK.out _ _ hd (fun hHeld => ?_); clear hK K; refine nm 12 ?_; refine wp 9 13 ?_; refine tm5 13 17 ?_; refine wp 14 19 ?_; refine tm5 19 23 ?_; refine om 20 24 (fun K hK => ?_); refine goes_ Tryz.func60 (by kernel_rfl) rfl #[.slice A0_2 l0_2.length c0_2] (by rfl) rfl rfl slq ?_; refine (spec_AreWords.calls k _ _ l0_2 true _ (cb HR0_2) HC0_2.out A9.out).mono ?_; rintro e w' ⟨rfl, ⟨nd, rfl⟩⟩; refine ⟨_, rfl, ?_⟩; refine hK.out _ _ hd (fun hHeld => ?_); clear hK K; refine nm 24 ?_; refine pm 21 25 ?_; refine pm 22 26 ?_; refine pm 23 27 ?_; refine pm 24 28 ?_; refine pm 26 30 ?_; refine tm5 25 29 ?_; refine tm5 27 31 ?_; refine wp 28 31 ?_; refine om 31 35 (fun K hK => ?_); refine goes_ Tryz.func59 (by kernel_rfl) rfl #[.int .i64 a0_3, .int .i64 0, .int .i64 (wrap64 ((ji11) - 2))] (by rfl) rfl rfl (by (try simp only [List.map_toArray, List.map_cons, List.map_nil]); first | done | (simp only [hji11]; rfl) | rfl | (simp only [List.length_drop, List.length_take]; rfl)) ?_; (with_reducible refine (spec_l01In.calls a0_3 0 (wrap64 ((ji11) - 2)) false _ A12.out).mono ?_); rintro e w' ⟨rfl, ⟨nd, rfl⟩⟩; refine ⟨_, rfl, ?_⟩; refine hK.out _ _ hd (fun hHeld => ?_); clear hK K; refine nm 35 ?_; refine wp 32 35 ?_
       refine wu 35 39 ?_
       refine pm 39 43 ?_
       refine done_ (done_of HT_.out (by kernel_rfl)) ?_
       try go_wp2
       go_meet
       case rel => exact ⟨_, (true), rfx, H', ⟨omx⟩, ⟨bk⟩, ⟨bels⟩⟩
     ·replace c10 := Bool.eq_false_iff.mpr c10; subst c10; rw [if_neg (by decide)] at H
      have H' := Aside0.mk H
      clear H
      try go_wp2
      replace BK11 := Aside0.mk (blk_drew BK11.out); replace HB := Aside0.mk (below_drew1 HB.out)
      refine start_ (n := 40) (S := fun w' => w'.cell? ⟨gb11, 0, none⟩ = some (.slice A0_0 l0_0.length c0_0) ∧ w'.cell? ⟨gb11, 1, none⟩ = some (.slice A0_1 l0_1.length c0_1) ∧ w'.cell? ⟨gb11, 2, none⟩ = some (.slice A0_2 l0_2.length c0_2) ∧ w'.cell? ⟨gb11, 3, none⟩ = some (.int .i64 a0_3) ∧ w'.cell? ⟨gb11, 4, none⟩ = some (.int .i64 a0_4)) (ds := []) _ (by kernel_rfl) rfl rfl ⟨bz BK11 0, bz BK11 1, bz BK11 2, bz BK11 3, bz BK11 4⟩ (fun hHeld => ?_); refine with_tabW spec_BlockOk.tab1 spec_BlockOk.bits1 (fun HT_ HW_ => ?_)
      generalize w3.drew = w19 at BK11 HB hHeld ⊢; refine pm 0 4 ?_; refine tm5 1 5 ?_; refine om 2 6 (fun K hK => ?_); refine goes_ Tryz.func58 (by kernel_rfl) rfl #[.slice A0_0 l0_0.length c0_0] (by rfl) rfl rfl slq ?_; refine (spec_ProgramOk.calls k _ _ l0_0 true _ (cb HR0_0) HC0_0.out A4.out).mono ?_; rintro e w20 ⟨rfl, hb⟩; refine ⟨_, rfl, ?_⟩; replace BK11 := kb BK11 hb; replace HB := hbs hb; clear hb; refine hK.out _ _ hd (fun hHeld => ?_); clear hK K; refine nm 6 ?_; refine wp 3 6 ?_; refine tm5 6 10 ?_; refine pm 7 11 ?_; refine om 8 12 (fun K hK => ?_); refine goes_ Tryz.func59 (by kernel_rfl) rfl #[.int .i64 (l0_1.length : Int), .int .i64 1, .int .i64 3] (by rfl) rfl rfl slq ?_; (with_reducible refine (spec_l01In.calls (l0_1.length : Int) 1 3 true _ A6.out).mono ?_); rintro e w' ⟨rfl, ⟨nd, rfl⟩⟩; refine ⟨_, rfl, ?_⟩; refine hK.out _ _ hd (fun hHeld => ?_); clear hK K; refine nm 12 ?_; refine wp 9 13 ?_; refine tm5 13 17 ?_; refine wp 14 19 ?_; refine tm5 19 23 ?_; refine om 20 24 (fun K hK => ?_); refine goes_ Tryz.func60 (by kernel_rfl) rfl #[.slice A0_2 l0_2.length c0_2] (by rfl) rfl rfl slq ?_; refine (spec_AreWords.calls k _ _ l0_2 false _ (cb HR0_2) HC0_2.out A9.out).mono ?_; rintro e w' ⟨rfl, ⟨nd, rfl⟩⟩; refine ⟨_, rfl, ?_⟩; refine hK.out _ _ hd (fun hHeld => ?_); clear hK K; refine nm 24 ?_; refine wp 21 24 ?_
      refine wu 24 33 ?_
      refine wp 33 35 ?_
      refine wu 35 39 ?_
      refine pm 39 43 ?_
      refine done_ (done_of HT_.out (by kernel_rfl)) ?_
      try go_wp2
      go_meet
      case rel => exact ⟨_, (true), rfx, H', ⟨omx⟩, ⟨bk⟩, ⟨bels⟩⟩
    ·rw [if_neg c8] at H
     have c8b0 : ((l0_2.length : Int) == 32) = false := beq_eq_false_iff_ne.mpr c8
     have c8b1 : ((l0_2.length : Int) != 32) = true := bne_iff_ne.mpr c8
     (first | rw [c8b0] | (simp only [i64_w, i32_w]; rw [c8b0]) | skip)
     have H' := Aside0.mk H
     clear H
     try go_wp2
     replace BK11 := Aside0.mk (blk_drew BK11.out); replace HB := Aside0.mk (below_drew1 HB.out)
     refine start_ (n := 40) (S := fun w' => w'.cell? ⟨gb11, 0, none⟩ = some (.slice A0_0 l0_0.length c0_0) ∧ w'.cell? ⟨gb11, 1, none⟩ = some (.slice A0_1 l0_1.length c0_1) ∧ w'.cell? ⟨gb11, 2, none⟩ = some (.slice A0_2 l0_2.length c0_2) ∧ w'.cell? ⟨gb11, 3, none⟩ = some (.int .i64 a0_3) ∧ w'.cell? ⟨gb11, 4, none⟩ = some (.int .i64 a0_4)) (ds := []) _ (by kernel_rfl) rfl rfl ⟨bz BK11 0, bz BK11 1, bz BK11 2, bz BK11 3, bz BK11 4⟩ (fun hHeld => ?_); refine with_tabW spec_BlockOk.tab1 spec_BlockOk.bits1 (fun HT_ HW_ => ?_)
     generalize w3.drew = w21 at BK11 HB hHeld ⊢; refine pm 0 4 ?_; refine tm5 1 5 ?_; refine om 2 6 (fun K hK => ?_); refine goes_ Tryz.func58 (by kernel_rfl) rfl #[.slice A0_0 l0_0.length c0_0] (by rfl) rfl rfl slq ?_; refine (spec_ProgramOk.calls k _ _ l0_0 true _ (cb HR0_0) HC0_0.out A4.out).mono ?_; rintro e w22 ⟨rfl, hb⟩; refine ⟨_, rfl, ?_⟩; replace BK11 := kb BK11 hb; replace HB := hbs hb; clear hb; refine hK.out _ _ hd (fun hHeld => ?_); clear hK K; refine nm 6 ?_; refine wp 3 6 ?_; refine tm5 6 10 ?_; refine pm 7 11 ?_; refine om 8 12 (fun K hK => ?_); refine goes_ Tryz.func59 (by kernel_rfl) rfl #[.int .i64 (l0_1.length : Int), .int .i64 1, .int .i64 3] (by rfl) rfl rfl slq ?_; (with_reducible refine (spec_l01In.calls (l0_1.length : Int) 1 3 true _ A6.out).mono ?_); rintro e w' ⟨rfl, ⟨nd, rfl⟩⟩; refine ⟨_, rfl, ?_⟩; refine hK.out _ _ hd (fun hHeld => ?_); clear hK K; refine nm 12 ?_; refine wp 9 13 ?_; refine tm5 13 17 ?_; refine wp 14 18 ?_
     refine wu 18 22 ?_
     refine wp 22 24 ?_
     refine wu 24 33 ?_
     refine wp 33 35 ?_
     refine wu 35 39 ?_
     refine pm 39 43 ?_
     refine done_ (done_of HT_.out (by kernel_rfl)) ?_
     try go_wp2
     go_meet
     case rel => exact ⟨_, (true), rfx, H', ⟨omx⟩, ⟨bk⟩, ⟨bels⟩⟩
   ·replace c7 := Bool.eq_false_iff.mpr c7; subst c7; rw [if_neg (by decide)] at H
    have H' := Aside0.mk H
    clear H
    try go_wp2
    replace BK11 := Aside0.mk (blk_drew BK11.out); replace HB := Aside0.mk (below_drew1 HB.out)
    refine start_ (n := 40) (S := fun w' => w'.cell? ⟨gb11, 0, none⟩ = some (.slice A0_0 l0_0.length c0_0) ∧ w'.cell? ⟨gb11, 1, none⟩ = some (.slice A0_1 l0_1.length c0_1) ∧ w'.cell? ⟨gb11, 2, none⟩ = some (.slice A0_2 l0_2.length c0_2) ∧ w'.cell? ⟨gb11, 3, none⟩ = some (.int .i64 a0_3) ∧ w'.cell? ⟨gb11, 4, none⟩ = some (.int .i64 a0_4)) (ds := []) _ (by kernel_rfl) rfl rfl ⟨bz BK11 0, bz BK11 1, bz BK11 2, bz BK11 3, bz BK11 4⟩ (fun hHeld => ?_); refine with_tabW spec_BlockOk.tab1 spec_BlockOk.bits1 (fun HT_ HW_ => ?_)
    generalize w3.drew = w23 at BK11 HB hHeld ⊢; refine pm 0 4 ?_; refine tm5 1 5 ?_; refine om 2 6 (fun K hK => ?_); refine goes_ Tryz.func58 (by kernel_rfl) rfl #[.slice A0_0 l0_0.length c0_0] (by rfl) rfl rfl slq ?_; refine (spec_ProgramOk.calls k _ _ l0_0 true _ (cb HR0_0) HC0_0.out A4.out).mono ?_; rintro e w24 ⟨rfl, hb⟩; refine ⟨_, rfl, ?_⟩; replace BK11 := kb BK11 hb; replace HB := hbs hb; clear hb; refine hK.out _ _ hd (fun hHeld => ?_); clear hK K; refine nm 6 ?_; refine wp 3 6 ?_; refine tm5 6 10 ?_; refine pm 7 11 ?_; refine om 8 12 (fun K hK => ?_); refine goes_ Tryz.func59 (by kernel_rfl) rfl #[.int .i64 (l0_1.length : Int), .int .i64 1, .int .i64 3] (by rfl) rfl rfl slq ?_; (with_reducible refine (spec_l01In.calls (l0_1.length : Int) 1 3 false _ A6.out).mono ?_); rintro e w' ⟨rfl, ⟨nd, rfl⟩⟩; refine ⟨_, rfl, ?_⟩; refine hK.out _ _ hd (fun hHeld => ?_); clear hK K; refine nm 12 ?_; refine wp 9 12 ?_
    refine wu 12 16 ?_
    refine wp 16 18 ?_
    refine wu 18 22 ?_
    refine wp 22 24 ?_
    refine wu 24 33 ?_
    refine wp 33 35 ?_
    refine wu 35 39 ?_
    refine pm 39 43 ?_
    refine done_ (done_of HT_.out (by kernel_rfl)) ?_
    try go_wp2
    go_meet
    case rel => exact ⟨_, (true), rfx, H', ⟨omx⟩, ⟨bk⟩, ⟨bels⟩⟩
  ·replace c5 := Bool.eq_false_iff.mpr c5; subst c5; rw [if_neg (by decide)] at H
   have H' := Aside0.mk H
   clear H
   try go_wp2
   replace BK11 := Aside0.mk (blk_drew BK11.out); replace HB := Aside0.mk (below_drew1 HB.out)
   refine start_ (n := 40) (S := fun w' => w'.cell? ⟨gb11, 0, none⟩ = some (.slice A0_0 l0_0.length c0_0) ∧ w'.cell? ⟨gb11, 1, none⟩ = some (.slice A0_1 l0_1.length c0_1) ∧ w'.cell? ⟨gb11, 2, none⟩ = some (.slice A0_2 l0_2.length c0_2) ∧ w'.cell? ⟨gb11, 3, none⟩ = some (.int .i64 a0_3) ∧ w'.cell? ⟨gb11, 4, none⟩ = some (.int .i64 a0_4)) (ds := []) _ (by kernel_rfl) rfl rfl ⟨bz BK11 0, bz BK11 1, bz BK11 2, bz BK11 3, bz BK11 4⟩ (fun hHeld => ?_); refine with_tabW spec_BlockOk.tab1 spec_BlockOk.bits1 (fun HT_ HW_ => ?_)
   generalize w3.drew = w25 at BK11 HB hHeld ⊢; refine pm 0 4 ?_; refine tm5 1 5 ?_; refine om 2 6 (fun K hK => ?_); refine goes_ Tryz.func58 (by kernel_rfl) rfl #[.slice A0_0 l0_0.length c0_0] (by rfl) rfl rfl slq ?_; refine (spec_ProgramOk.calls k _ _ l0_0 false _ (cb HR0_0) HC0_0.out A4.out).mono ?_; rintro e w26 ⟨rfl, hb⟩; refine ⟨_, rfl, ?_⟩; replace BK11 := kb BK11 hb; replace HB := hbs hb; clear hb; refine hK.out _ _ hd (fun hHeld => ?_); clear hK K; refine nm 6 ?_; refine wp 3 5 ?_
   refine wu 5 10 ?_
   refine wp 10 12 ?_
   refine wu 12 16 ?_
   refine wp 16 18 ?_
   refine wu 18 22 ?_
   refine wp 22 24 ?_
   refine wu 24 33 ?_
   refine wp 33 35 ?_
   refine wu 35 39 ?_
   refine pm 39 43 ?_
   refine done_ (done_of HT_.out (by kernel_rfl)) ?_
   try go_wp2
   go_meet
   case rel => exact ⟨_, (true), rfx, H', ⟨omx⟩, ⟨bk⟩, ⟨bels⟩⟩
 case rest =>
  clear HC2
  try clear p2
  try clear c5
  try clear c7
  obtain ⟨kq, x43_1, rfl, HA, HJ1, BK11, HB⟩ := hcut
  cases kq with
  | zero => exact absurd HA.out (by simp [spec_BlockOk.j0])
  | succ kj1 =>
   have H := HA.out; clear HA
   simp only [spec_BlockOk.j0] at H
   by_cases c27 : x43_1 = true
   ·subst c27; rw [if_pos rfl] at H; obtain rfl := oI H
    go_wp2
    go_ret
    exact ⟨rfe, bels⟩
   ·replace c27 := Bool.eq_false_iff.mpr c27; subst c27; rw [if_neg (by decide)] at H
    have H' := Aside0.mk H
    clear H
    go_wp2
    go_loopg [3] kj1 (fun kq v3 w' => ∃ (x3_2 : Int), v3 = .int .i64 x3_2 ∧ Aside0 (spec_BlockOk.l0 kq x3_2 l0_0 l0_1 l0_2 a0_3 a0_4 = some r) ∧ Aside0 (kq ≤ kj1) ∧ Aside0 (w'.heap[gb11]? = some (.cells #[(.slice A0_0 l0_0.length c0_0), (.slice A0_1 l0_1.length c0_1), (.slice A0_2 l0_2.length c0_2), .int .i64 a0_3, .int .i64 a0_4] 33 (0, 0))) ∧ Aside0 (Below w.heap.size w w'))
    case atStart => exact ⟨(0), rfx, H', ⟨Nat.le_refl _⟩, ⟨bk⟩, ⟨bels⟩⟩
    case round =>
     clear H'
     try clear c2
     try clear p2
     try clear c5
     try clear c7
     try clear c27
     try clear p2
     obtain ⟨x3_2, rfl, HA, HK2, BK11, HB⟩ := hrel
     cases gk with
     | zero => exact absurd HA.out (by simp [spec_BlockOk.l0])
     | succ k2 =>
      have H := HA.out; clear HA
      simp only [spec_BlockOk.l0] at H
      by_cases c28 : x3_2 < (l0_1.length : Int)
      ·rw [if_pos c28] at H
       have c28b0 := decide_eq_true c28
       clear c28
       obtain ⟨c29, H⟩ := ifS H
       have c29b0 := decide_eq_true c29
       clear c29; obtain ⟨t18, A30, H⟩ := bnd H; (try dsimp only at H)
       by_cases c31 : t18 = true
       ·subst c31; rw [if_pos rfl] at H
        by_cases c32 : ((rd_T59 l0_1 x3_2).f0) = x3_2
        ·rw [if_pos c32] at H
         have c32b0 : (((rd_T59 l0_1 x3_2).f0) == x3_2) = true := beq_iff_eq.mpr c32
         have c32b1 : (((rd_T59 l0_1 x3_2).f0) != x3_2) = false := bne_eq_false_iff_eq.mpr c32
         clear c32
         have H' := Aside0.mk H
         clear H; obtain ⟨_, _, _, _, _, _, _, _, _, _⟩ := box5 BK11
         try go_wp2
         replace BK11 := Aside0.mk (blk_drew BK11.out); replace HB := Aside0.mk (below_drew1 HB.out)
         have p17 : 0 ≤ (x3_2 : Int) := pq0
         have q17 : x3_2 < (l0_1.length : Int) := pq0
         obtain ⟨ad17, A17_1, c17_1, A17_2, c17_2, e17, hx17_0, hx17_1, hx17_2, hl17_1, hi17_1, hl17_2, hi17_2⟩ := at_T59 HR0_1.out x3_2 p17 q17; have hw17_2 := hx17_2; have hw17_1 := hx17_1; have hw17_0 := hx17_0
         cases e17
         replace hx17_0 := hxb hx17_0; replace hx17_1 := hxb hx17_1; replace hx17_2 := hxb hx17_2; have HR17_1 := Aside0.mk hi17_1; have HC17_1 := Aside0.mk hl17_1; clear hi17_1 hl17_1; have HR17_2 := Aside0.mk hi17_2; have HC17_2 := Aside0.mk hl17_2; clear hi17_2 hl17_2; replace p17 := eq_true p17; replace q17 := eq_true q17
         have p19 : 0 ≤ (x3_2 : Int) := pq0
         have q19 : x3_2 < (l0_1.length : Int) := pq0
         obtain ⟨ad19, A19_1, c19_1, A19_2, c19_2, e19, hx19_0, hx19_1, hx19_2, hl19_1, hi19_1, hl19_2, hi19_2⟩ := at_T59 HR0_1.out x3_2 p19 q19; have hw19_2 := hx19_2; have hw19_1 := hx19_1; have hw19_0 := hx19_0
         obtain rfl : ad17 = ad19 := (by injection e19)
         replace hx19_0 := hxb hx19_0; replace hx19_1 := hxb hx19_1; replace hx19_2 := hxb hx19_2; have HR19_1 := Aside0.mk hi19_1; have HC19_1 := Aside0.mk hl19_1; clear hi19_1 hl19_1; have HR19_2 := Aside0.mk hi19_2; have HC19_2 := Aside0.mk hl19_2; clear hi19_2 hl19_2; replace p19 := eq_true p19; replace q19 := eq_true q19
         refine start_ (n := 19) (S := fun w' => w'.cell? ⟨gb11, 0, none⟩ = some (.slice A0_0 l0_0.length c0_0) ∧ w'.cell? ⟨gb11, 1, none⟩ = some (.slice (some ad17) l0_1.length c0_1) ∧ w'.cell? ⟨gb11, 2, none⟩ = some (.slice A0_2 l0_2.length c0_2) ∧ w'.cell? ⟨gb11, 3, none⟩ = some (.int .i64 a0_3) ∧ w'.cell? ⟨gb11, 4, none⟩ = some (.int .i64 a0_4) ∧ w'.cell? (ad17.add ((x3_2).toNat * 3)) = some (.int .i64 ((rd_T59 l0_1 x3_2).f0)) ∧ w'.cell? ⟨(ad17.add ((x3_2).toNat * 3)).block, (ad17.add ((x3_2).toNat * 3)).off + 1, none⟩ = some (.slice A17_1 ((rd_T59 l0_1 x3_2).f1).length c17_1) ∧ w'.cell? ⟨(ad17.add ((x3_2).toNat * 3)).block, (ad17.add ((x3_2).toNat * 3)).off + 2, none⟩ = some (.slice A17_2 ((rd_T59 l0_1 x3_2).f2).length c17_2) ∧ w'.cell? (ad17.add ((x3_2).toNat * 3)) = some (.int .i64 ((rd_T59 l0_1 x3_2).f0)) ∧ w'.cell? ⟨(ad17.add ((x3_2).toNat * 3)).block, (ad17.add ((x3_2).toNat * 3)).off + 1, none⟩ = some (.slice A19_1 ((rd_T59 l0_1 x3_2).f1).length c19_1) ∧ w'.cell? ⟨(ad17.add ((x3_2).toNat * 3)).block, (ad17.add ((x3_2).toNat * 3)).off + 2, none⟩ = some (.slice A19_2 ((rd_T59 l0_1 x3_2).f2).length c19_2)) (ds := []) _ (by kernel_rfl) rfl rfl ⟨bz BK11 0, bz BK11 1, bz BK11 2, bz BK11 3, bz BK11 4, (hxb hw17_0), (hxb hw17_1), (hxb hw17_2), (hxb hw19_0), (hxb hw19_1), (hxb hw19_2)⟩ (fun hHeld => ?_); refine with_tabW spec_BlockOk.tab6 spec_BlockOk.bits6 (fun HT_ HW_ => ?_)
         generalize wr.drew = w34 at BK11 HB HR17_1 HR17_2 HR19_1 HR19_2 hx17_0 hx17_1 hx17_2 hx19_0 hx19_1 hx19_2 hHeld ⊢; refine pm 0 51 ?_; refine pm 2 53 ?_; refine pm 4 55 ?_; refine tm11 1 52 ?_; refine tm11 3 54 ?_; refine pm 5 56 ?_; refine tm11 6 57 ?_; refine om 7 58 (fun K hK => ?_); refine goes_ Tryz.func61 (by kernel_rfl) rfl #[.slice A0_0 l0_0.length c0_0, .agg #[.int .i64 ((rd_T59 l0_1 x3_2).f0), .slice A17_1 ((rd_T59 l0_1 x3_2).f1).length c17_1, .slice A17_2 ((rd_T59 l0_1 x3_2).f2).length c17_2]] (by rfl) rfl rfl slq ?_; refine (spec_WarpOk.calls k2 _ _ l0_0 ((rd_T59 l0_1 x3_2).f0) _ _ ((rd_T59 l0_1 x3_2).f1) _ _ ((rd_T59 l0_1 x3_2).f2) true _ (cb HR0_0) HC0_0.out (cb HR17_1) HC17_1.out (cb HR17_2) HC17_2.out A30.out).mono ?_; rintro e w35 ⟨rfl, hb⟩; refine ⟨_, rfl, ?_⟩; replace BK11 := kb BK11 hb; replace HB := hbs hb; clear hb; refine hK.out _ _ hd (fun hHeld => ?_); clear hK K; refine nm 58 ?_; refine pm 8 59 ?_; refine pm 9 60 ?_; refine pm 10 61 ?_; refine pm 12 63 ?_; refine pm 16 67 ?_; refine tm11 11 62 ?_; refine wp 13 15 ?_; refine tm11 15 66 ?_; refine wp 17 19 ?_
         refine done_ (done_of HT_.out (by kernel_rfl)) ?_
         try go_wp2
         go_roundg k2
         case measure => have := HJ1.out; have := HK2.out; omega
         case rel => exact ⟨(wrap64 (x3_2 + 1)), rfx, H', ⟨by have := HJ1.out; have := HK2.out; omega⟩, ⟨bk⟩, ⟨bels⟩⟩
        ·rw [if_neg c32] at H
         have c32b0 : (((rd_T59 l0_1 x3_2).f0) == x3_2) = false := beq_eq_false_iff_ne.mpr c32
         have c32b1 : (((rd_T59 l0_1 x3_2).f0) != x3_2) = true := bne_iff_ne.mpr c32
         obtain rfl := oI H; obtain ⟨_, _, _, _, _, _, _, _, _, _⟩ := box5 BK11
         try go_wp2
         replace BK11 := Aside0.mk (blk_drew BK11.out); replace HB := Aside0.mk (below_drew1 HB.out)
         have p17 : 0 ≤ (x3_2 : Int) := pq0
         have q17 : x3_2 < (l0_1.length : Int) := pq0
         obtain ⟨ad17, A17_1, c17_1, A17_2, c17_2, e17, hx17_0, hx17_1, hx17_2, hl17_1, hi17_1, hl17_2, hi17_2⟩ := at_T59 HR0_1.out x3_2 p17 q17; have hw17_2 := hx17_2; have hw17_1 := hx17_1; have hw17_0 := hx17_0
         cases e17
         replace hx17_0 := hxb hx17_0; replace hx17_1 := hxb hx17_1; replace hx17_2 := hxb hx17_2; have HR17_1 := Aside0.mk hi17_1; have HC17_1 := Aside0.mk hl17_1; clear hi17_1 hl17_1; have HR17_2 := Aside0.mk hi17_2; have HC17_2 := Aside0.mk hl17_2; clear hi17_2 hl17_2; replace p17 := eq_true p17; replace q17 := eq_true q17
         have p19 : 0 ≤ (x3_2 : Int) := pq0
         have q19 : x3_2 < (l0_1.length : Int) := pq0
         obtain ⟨ad19, A19_1, c19_1, A19_2, c19_2, e19, hx19_0, hx19_1, hx19_2, hl19_1, hi19_1, hl19_2, hi19_2⟩ := at_T59 HR0_1.out x3_2 p19 q19; have hw19_2 := hx19_2; have hw19_1 := hx19_1; have hw19_0 := hx19_0
         obtain rfl : ad17 = ad19 := (by injection e19)
         replace hx19_0 := hxb hx19_0; replace hx19_1 := hxb hx19_1; replace hx19_2 := hxb hx19_2; have HR19_1 := Aside0.mk hi19_1; have HC19_1 := Aside0.mk hl19_1; clear hi19_1 hl19_1; have HR19_2 := Aside0.mk hi19_2; have HC19_2 := Aside0.mk hl19_2; clear hi19_2 hl19_2; replace p19 := eq_true p19; replace q19 := eq_true q19
         refine start_ (n := 19) (S := fun w' => w'.cell? ⟨gb11, 0, none⟩ = some (.slice A0_0 l0_0.length c0_0) ∧ w'.cell? ⟨gb11, 1, none⟩ = some (.slice (some ad17) l0_1.length c0_1) ∧ w'.cell? ⟨gb11, 2, none⟩ = some (.slice A0_2 l0_2.length c0_2) ∧ w'.cell? ⟨gb11, 3, none⟩ = some (.int .i64 a0_3) ∧ w'.cell? ⟨gb11, 4, none⟩ = some (.int .i64 a0_4) ∧ w'.cell? (ad17.add ((x3_2).toNat * 3)) = some (.int .i64 ((rd_T59 l0_1 x3_2).f0)) ∧ w'.cell? ⟨(ad17.add ((x3_2).toNat * 3)).block, (ad17.add ((x3_2).toNat * 3)).off + 1, none⟩ = some (.slice A17_1 ((rd_T59 l0_1 x3_2).f1).length c17_1) ∧ w'.cell? ⟨(ad17.add ((x3_2).toNat * 3)).block, (ad17.add ((x3_2).toNat * 3)).off + 2, none⟩ = some (.slice A17_2 ((rd_T59 l0_1 x3_2).f2).length c17_2) ∧ w'.cell? (ad17.add ((x3_2).toNat * 3)) = some (.int .i64 ((rd_T59 l0_1 x3_2).f0)) ∧ w'.cell? ⟨(ad17.add ((x3_2).toNat * 3)).block, (ad17.add ((x3_2).toNat * 3)).off + 1, none⟩ = some (.slice A19_1 ((rd_T59 l0_1 x3_2).f1).length c19_1) ∧ w'.cell? ⟨(ad17.add ((x3_2).toNat * 3)).block, (ad17.add ((x3_2).toNat * 3)).off + 2, none⟩ = some (.slice A19_2 ((rd_T59 l0_1 x3_2).f2).length c19_2)) (ds := []) _ (by kernel_rfl) rfl rfl ⟨bz BK11 0, bz BK11 1, bz BK11 2, bz BK11 3, bz BK11 4, (hxb hw17_0), (hxb hw17_1), (hxb hw17_2), (hxb hw19_0), (hxb hw19_1), (hxb hw19_2)⟩ (fun hHeld => ?_); refine with_tabW spec_BlockOk.tab6 spec_BlockOk.bits6 (fun HT_ HW_ => ?_)
         generalize wr.drew = w37 at BK11 HB HR17_1 HR17_2 HR19_1 HR19_2 hx17_0 hx17_1 hx17_2 hx19_0 hx19_1 hx19_2 hHeld ⊢; refine pm 0 51 ?_; refine pm 2 53 ?_; refine pm 4 55 ?_; refine tm11 1 52 ?_; refine tm11 3 54 ?_; refine pm 5 56 ?_; refine tm11 6 57 ?_; refine om 7 58 (fun K hK => ?_); refine goes_ Tryz.func61 (by kernel_rfl) rfl #[.slice A0_0 l0_0.length c0_0, .agg #[.int .i64 ((rd_T59 l0_1 x3_2).f0), .slice A17_1 ((rd_T59 l0_1 x3_2).f1).length c17_1, .slice A17_2 ((rd_T59 l0_1 x3_2).f2).length c17_2]] (by rfl) rfl rfl slq ?_; refine (spec_WarpOk.calls k2 _ _ l0_0 ((rd_T59 l0_1 x3_2).f0) _ _ ((rd_T59 l0_1 x3_2).f1) _ _ ((rd_T59 l0_1 x3_2).f2) true _ (cb HR0_0) HC0_0.out (cb HR17_1) HC17_1.out (cb HR17_2) HC17_2.out A30.out).mono ?_; rintro e w38 ⟨rfl, hb⟩; refine ⟨_, rfl, ?_⟩; replace BK11 := kb BK11 hb; replace HB := hbs hb; clear hb; refine hK.out _ _ hd (fun hHeld => ?_); clear hK K; refine nm 58 ?_; refine pm 8 59 ?_; refine pm 9 60 ?_; refine pm 10 61 ?_; refine pm 12 63 ?_; refine pm 16 67 ?_; refine tm11 11 62 ?_; refine wp 13 15 ?_; refine tm11 15 66 ?_; refine wp 17 19 ?_
         refine done_ (done_of HT_.out (by kernel_rfl)) ?_
         try go_wp2
         go_ret
         exact ⟨rfe, bels⟩
       ·replace c31 := Bool.eq_false_iff.mpr c31; subst c31; rw [if_neg (by decide)] at H; obtain rfl := oI H; obtain ⟨_, _, _, _, _, _, _, _, _, _⟩ := box5 BK11
        try go_wp2
        replace BK11 := Aside0.mk (blk_drew BK11.out); replace HB := Aside0.mk (below_drew1 HB.out)
        have p17 : 0 ≤ (x3_2 : Int) := pq0
        have q17 : x3_2 < (l0_1.length : Int) := pq0
        obtain ⟨ad17, A17_1, c17_1, A17_2, c17_2, e17, hx17_0, hx17_1, hx17_2, hl17_1, hi17_1, hl17_2, hi17_2⟩ := at_T59 HR0_1.out x3_2 p17 q17; have hw17_2 := hx17_2; have hw17_1 := hx17_1; have hw17_0 := hx17_0
        cases e17
        replace hx17_0 := hxb hx17_0; replace hx17_1 := hxb hx17_1; replace hx17_2 := hxb hx17_2; have HR17_1 := Aside0.mk hi17_1; have HC17_1 := Aside0.mk hl17_1; clear hi17_1 hl17_1; have HR17_2 := Aside0.mk hi17_2; have HC17_2 := Aside0.mk hl17_2; clear hi17_2 hl17_2; replace p17 := eq_true p17; replace q17 := eq_true q17
        refine start_ (n := 19) (S := fun w' => w'.cell? ⟨gb11, 0, none⟩ = some (.slice A0_0 l0_0.length c0_0) ∧ w'.cell? ⟨gb11, 1, none⟩ = some (.slice (some ad17) l0_1.length c0_1) ∧ w'.cell? ⟨gb11, 2, none⟩ = some (.slice A0_2 l0_2.length c0_2) ∧ w'.cell? ⟨gb11, 3, none⟩ = some (.int .i64 a0_3) ∧ w'.cell? ⟨gb11, 4, none⟩ = some (.int .i64 a0_4) ∧ w'.cell? (ad17.add ((x3_2).toNat * 3)) = some (.int .i64 ((rd_T59 l0_1 x3_2).f0)) ∧ w'.cell? ⟨(ad17.add ((x3_2).toNat * 3)).block, (ad17.add ((x3_2).toNat * 3)).off + 1, none⟩ = some (.slice A17_1 ((rd_T59 l0_1 x3_2).f1).length c17_1) ∧ w'.cell? ⟨(ad17.add ((x3_2).toNat * 3)).block, (ad17.add ((x3_2).toNat * 3)).off + 2, none⟩ = some (.slice A17_2 ((rd_T59 l0_1 x3_2).f2).length c17_2)) (ds := []) _ (by kernel_rfl) rfl rfl ⟨bz BK11 0, bz BK11 1, bz BK11 2, bz BK11 3, bz BK11 4, (hxb hw17_0), (hxb hw17_1), (hxb hw17_2)⟩ (fun hHeld => ?_); refine with_tabW spec_BlockOk.tab6 spec_BlockOk.bits6 (fun HT_ HW_ => ?_)
        generalize wr.drew = w40 at BK11 HB HR17_1 HR17_2 hx17_0 hx17_1 hx17_2 hHeld ⊢; refine pm 0 51 ?_; refine pm 2 53 ?_; refine pm 4 55 ?_; refine tm8 1 52 ?_; refine tm8 3 54 ?_; refine pm 5 56 ?_; refine tm8 6 57 ?_; refine om 7 58 (fun K hK => ?_); refine goes_ Tryz.func61 (by kernel_rfl) rfl #[.slice A0_0 l0_0.length c0_0, .agg #[.int .i64 ((rd_T59 l0_1 x3_2).f0), .slice A17_1 ((rd_T59 l0_1 x3_2).f1).length c17_1, .slice A17_2 ((rd_T59 l0_1 x3_2).f2).length c17_2]] (by rfl) rfl rfl slq ?_; refine (spec_WarpOk.calls k2 _ _ l0_0 ((rd_T59 l0_1 x3_2).f0) _ _ ((rd_T59 l0_1 x3_2).f1) _ _ ((rd_T59 l0_1 x3_2).f2) false _ (cb HR0_0) HC0_0.out (cb HR17_1) HC17_1.out (cb HR17_2) HC17_2.out A30.out).mono ?_; rintro e w41 ⟨rfl, hb⟩; refine ⟨_, rfl, ?_⟩; replace BK11 := kb BK11 hb; replace HB := hbs hb; clear hb; refine hK.out _ _ hd (fun hHeld => ?_); clear hK K; refine nm 58 ?_; refine wp 8 10 ?_
        refine wu 10 18 ?_
        refine pm 18 69 ?_
        refine done_ (done_of HT_.out (by kernel_rfl)) ?_
        try go_wp2
        go_ret
        exact ⟨rfe, bels⟩
      ·rw [if_neg c28] at H
       have c28b0 := decide_eq_false c28
       clear c28; obtain rfl := oI H; obtain ⟨_, _, _, _, _, _, _, _, _, _⟩ := box5 BK11
       go_wp2
       go_ret
       exact ⟨rfe, bels⟩

/-! ### spec_l29Ended: function 27 -/
def spec_l29Ended.l0 : Nat → Int → List (S95) → List (S59) → List Int → Int → Int → Option (Bool)
 | 0, _, _, _, _, _, _ => none
 | k + 1, x3, x12000, x12001, x12002, x12003, x12004 => if x3 < (x12001.length : Int) then (if 0 ≤ x3 then (if (((rd_T59 x12001 x3).f1).length : Int) > 0 then (some false) else (spec_l29Ended.l0 k (wrap64 (x3 + 1)) x12000 x12001 x12002 x12003 x12004)) else (none)) else (some true)
def spec_l29Ended.f (k : Nat) (l0_0 : List (S95)) (l0_1 : List (S59)) (l0_2 : List Int) (a0_3 : Int) (a0_4 : Int) : Option (Bool) := spec_l29Ended.l0 k 0 l0_0 l0_1 l0_2 a0_3 a0_4
set_option maxHeartbeats 8000000 in
set_option maxRecDepth 100000 in
theorem spec_l29Ended.calls (k : Nat) (A0_0 : Option Addr) (c0_0 : Nat) (l0_0 : List (S95)) (A0_1 : Option Addr) (c0_1 : Nat) (l0_1 : List (S59)) (A0_2 : Option Addr) (c0_2 : Nat) (l0_2 : List Int) (a0_3 : Int) (a0_4 : Int) (r : Bool) (w : World) (hr0_0 : Kd.C k95 w A0_0 l0_0.length l0_0) (hc0_0 : l0_0.length ≤ c0_0) (hr0_1 : Kd.C k59 w A0_1 l0_1.length l0_1) (hc0_1 : l0_1.length ≤ c0_1) (hr0_2 : Kd.C (Kd.int .i64) w A0_2 l0_2.length l0_2) (hc0_2 : l0_2.length ≤ c0_2) (h : spec_l29Ended.f k l0_0 l0_1 l0_2 a0_3 a0_4 = some r) :
  Calls Tryz.prog 27 #[.agg #[.slice A0_0 l0_0.length c0_0, .slice A0_1 l0_1.length c0_1, .slice A0_2 l0_2.length c0_2, .int .i64 a0_3, .int .i64 a0_4]] w fun e w' => e = .returned (.bool r) ∧ Below w.heap.size w w' := by
 have hu33 := Tryz.underlying33; have HR0_0 := Aside0.mk hr0_0; have HC0_0 := Aside0.mk hc0_0; clear hr0_0 hc0_0; have HR0_1 := Aside0.mk hr0_1; have HC0_1 := Aside0.mk hc0_1; clear hr0_1 hc0_1; have HR0_2 := Aside0.mk hr0_2; have HC0_2 := Aside0.mk hc0_2; clear hr0_2 hc0_2; have HB := Aside0.mk (Below.refl w.heap.size w)
 have H : (spec_l29Ended.l0 k 0 l0_0 l0_1 l0_2 a0_3 a0_4) = some r := h
 clear h
 have H' := Aside0.mk H
 clear H
 go_enter Tryz.func27, Tryz.ntmps27
 go_wp2_with (first | (refine bxe 1 #[.slice A0_0 l0_0.length c0_0, .slice A0_1 l0_1.length c0_1, .slice A0_2 l0_2.length c0_2, .int .i64 a0_3, .int .i64 a0_4] 33 ?_; intro gb11 hg w2 hbox hb; have BK11 := Aside0.mk (hbox); have GW11 := Aside0.mk (gwe hg : w.heap.size ≤ _); have GE11 := GW11; replace HB := hbs hb; clear hb hbox hg))
 go_loopg [3] k (fun kq v3 w' => ∃ (x3_1 : Int), v3 = .int .i64 x3_1 ∧ Aside0 (spec_l29Ended.l0 kq x3_1 l0_0 l0_1 l0_2 a0_3 a0_4 = some r) ∧ Aside0 (kq ≤ k) ∧ Aside0 (w'.heap[gb11]? = some (.cells #[(.slice A0_0 l0_0.length c0_0), (.slice A0_1 l0_1.length c0_1), (.slice A0_2 l0_2.length c0_2), .int .i64 a0_3, .int .i64 a0_4] 33 (0, 0))) ∧ Aside0 (Below w.heap.size w w'))
 case atStart => exact ⟨(0), rfx, H', ⟨Nat.le_refl _⟩, ⟨bk⟩, ⟨bels⟩⟩
 case round =>
  clear H'
  try clear c2
  try clear p2
  obtain ⟨x3_1, rfl, HA, HK1, BK11, HB⟩ := hrel
  cases gk with
  | zero => exact absurd HA.out (by simp [spec_l29Ended.l0])
  | succ k1 =>
   have H := HA.out; clear HA
   simp only [spec_l29Ended.l0] at H
   by_cases c3 : x3_1 < (l0_1.length : Int)
   ·rw [if_pos c3] at H
    have c3b0 := decide_eq_true c3
    clear c3
    obtain ⟨c4, H⟩ := ifS H
    have c4b0 := decide_eq_true c4
    clear c4
    by_cases c5 : (((rd_T59 l0_1 x3_1).f1).length : Int) > 0
    ·rw [if_pos c5] at H
     have c5b0 := decide_eq_true c5
     have c5b1 : decide (0 < ((rd_T59 l0_1 x3_1).f1).length) = true := decide_eq_true (by omega)
     clear c5; obtain rfl := oI H; obtain ⟨_, _, _, _, _, _, _, _, _, _⟩ := box5 BK11
     have p12 : 0 ≤ (x3_1 : Int) := pq0
     have q12 : x3_1 < (l0_1.length : Int) := pq0
     obtain ⟨ad12, A12_1, c12_1, A12_2, c12_2, e12, hx12_0, hx12_1, hx12_2, hl12_1, hi12_1, hl12_2, hi12_2⟩ := at_T59 HR0_1.out x3_1 p12 q12
     cases e12
     replace hx12_0 := hxb hx12_0; replace hx12_1 := hxb hx12_1; replace hx12_2 := hxb hx12_2; have HR12_1 := Aside0.mk hi12_1; have HC12_1 := Aside0.mk hl12_1; clear hi12_1 hl12_1; have HR12_2 := Aside0.mk hi12_2; have HC12_2 := Aside0.mk hl12_2; clear hi12_2 hl12_2; replace p12 := eq_true p12; replace q12 := eq_true q12
     go_wp2
     go_ret
     exact ⟨rfe, bels⟩
    ·rw [if_neg c5] at H
     have c5b0 := decide_eq_false c5
     have c5b1 : decide (0 < ((rd_T59 l0_1 x3_1).f1).length) = false := decide_eq_false (by omega)
     clear c5
     have H' := Aside0.mk H
     clear H; obtain ⟨_, _, _, _, _, _, _, _, _, _⟩ := box5 BK11
     have p12 : 0 ≤ (x3_1 : Int) := pq0
     have q12 : x3_1 < (l0_1.length : Int) := pq0
     obtain ⟨ad12, A12_1, c12_1, A12_2, c12_2, e12, hx12_0, hx12_1, hx12_2, hl12_1, hi12_1, hl12_2, hi12_2⟩ := at_T59 HR0_1.out x3_1 p12 q12
     cases e12
     replace hx12_0 := hxb hx12_0; replace hx12_1 := hxb hx12_1; replace hx12_2 := hxb hx12_2; have HR12_1 := Aside0.mk hi12_1; have HC12_1 := Aside0.mk hl12_1; clear hi12_1 hl12_1; have HR12_2 := Aside0.mk hi12_2; have HC12_2 := Aside0.mk hl12_2; clear hi12_2 hl12_2; replace p12 := eq_true p12; replace q12 := eq_true q12
     go_wp2
     go_roundg k1
     case measure => have := HK1.out; omega
     case rel => exact ⟨(wrap64 (x3_1 + 1)), rfx, H', ⟨by have := HK1.out; omega⟩, ⟨bk⟩, ⟨bels⟩⟩
   ·rw [if_neg c3] at H
    have c3b0 := decide_eq_false c3
    clear c3; obtain rfl := oI H; obtain ⟨_, _, _, _, _, _, _, _, _, _⟩ := box5 BK11
    go_wp2
    go_ret
    exact ⟨rfe, bels⟩

/-! ### spec_l30Next: function 103 -/
def spec_l30Next.f (l0_0 : List (S95)) (l0_1 : List (S59)) (l0_2 : List Int) (a0_3 : Int) (a0_4 : Int) (a1 : Int) : Option (Int × Int × Int × Int) := if 0 ≤ a1 then (if a1 < (l0_1.length : Int) then (if 0 ≤ (wrap64 ((((rd_T59 l0_1 a1).f1).length : Int) - 1)) then (if (wrap64 ((((rd_T59 l0_1 a1).f1).length : Int) - 1)) < (((rd_T59 l0_1 a1).f1).length : Int) then (if 0 ≤ ((rd_T132 ((rd_T59 l0_1 a1).f1) (wrap64 ((((rd_T59 l0_1 a1).f1).length : Int) - 1))).f0) then (if ((rd_T132 ((rd_T59 l0_1 a1).f1) (wrap64 ((((rd_T59 l0_1 a1).f1).length : Int) - 1))).f0) < (l0_0.length : Int) then (some ((rd_T95 l0_0 ((rd_T132 ((rd_T59 l0_1 a1).f1) (wrap64 ((((rd_T59 l0_1 a1).f1).length : Int) - 1))).f0)).f0, (rd_T95 l0_0 ((rd_T132 ((rd_T59 l0_1 a1).f1) (wrap64 ((((rd_T59 l0_1 a1).f1).length : Int) - 1))).f0)).f1, (rd_T95 l0_0 ((rd_T132 ((rd_T59 l0_1 a1).f1) (wrap64 ((((rd_T59 l0_1 a1).f1).length : Int) - 1))).f0)).f2, (rd_T95 l0_0 ((rd_T132 ((rd_T59 l0_1 a1).f1) (wrap64 ((((rd_T59 l0_1 a1).f1).length : Int) - 1))).f0)).f3)) else (none)) else (none)) else (none)) else (none)) else (none)) else (none)
def spec_l30Next.T2 : Bool × List (List Nat × List Nat) := (true, [([], []), ([0], [0]), ([], []), ([], []), ([3], [3]), ([4], [4]), ([2, 5], [2, 5]), ([6], [6]), ([7], [7]), ([1, 8], [1, 8]), ([9], [9]), ([10, 0, 1, 2, 3, 4, 5, 6, 7, 8, 9, 10], [10])])
def spec_l30Next.B2 : List Nat := [0, 1, 0, 0, 8, 24, 60, 124, 252, 511, 1023, 2047]
theorem spec_l30Next.tab2 : rtab .any (opsOf Tryz.f103 2) = spec_l30Next.T2 := by kernel_rfl
theorem spec_l30Next.bits2 : waitsOk spec_l30Next.T2.2 spec_l30Next.B2 = true := by kernel_rfl
set_option maxHeartbeats 8000000 in
set_option maxRecDepth 100000 in
theorem spec_l30Next.calls (A0_0 : Option Addr) (c0_0 : Nat) (l0_0 : List (S95)) (A0_1 : Option Addr) (c0_1 : Nat) (l0_1 : List (S59)) (A0_2 : Option Addr) (c0_2 : Nat) (l0_2 : List Int) (a0_3 : Int) (a0_4 : Int) (a1 : Int) (r1 : Int) (r2 : Int) (r3 : Int) (r4 : Int) (w : World) (hr0_0 : Kd.C k95 w A0_0 l0_0.length l0_0) (hc0_0 : l0_0.length ≤ c0_0) (hr0_1 : Kd.C k59 w A0_1 l0_1.length l0_1) (hc0_1 : l0_1.length ≤ c0_1) (hr0_2 : Kd.C (Kd.int .i64) w A0_2 l0_2.length l0_2) (hc0_2 : l0_2.length ≤ c0_2) (h : spec_l30Next.f l0_0 l0_1 l0_2 a0_3 a0_4 a1 = some (r1, r2, r3, r4)) :
  Calls Tryz.prog 103 #[.agg #[.slice A0_0 l0_0.length c0_0, .slice A0_1 l0_1.length c0_1, .slice A0_2 l0_2.length c0_2, .int .i64 a0_3, .int .i64 a0_4], .int .i64 a1] w fun e w' => e = .returned (.agg #[.int .i64 r1, .int .i64 r2, .int .i64 r3, .int .i64 r4]) ∧ Below w.heap.size w w' := by
 have hu33 := Tryz.underlying33; have hu95 := Tryz.underlying95; have HR0_0 := Aside0.mk hr0_0; have HC0_0 := Aside0.mk hc0_0; clear hr0_0 hc0_0; have HR0_1 := Aside0.mk hr0_1; have HC0_1 := Aside0.mk hc0_1; clear hr0_1 hc0_1; have HR0_2 := Aside0.mk hr0_2; have HC0_2 := Aside0.mk hc0_2; clear hr0_2 hc0_2; have HB := Aside0.mk (Below.refl w.heap.size w)
 have H : (if 0 ≤ a1 then (if a1 < (l0_1.length : Int) then (if 0 ≤ (wrap64 ((((rd_T59 l0_1 a1).f1).length : Int) - 1)) then (if (wrap64 ((((rd_T59 l0_1 a1).f1).length : Int) - 1)) < (((rd_T59 l0_1 a1).f1).length : Int) then (if 0 ≤ ((rd_T132 ((rd_T59 l0_1 a1).f1) (wrap64 ((((rd_T59 l0_1 a1).f1).length : Int) - 1))).f0) then (if ((rd_T132 ((rd_T59 l0_1 a1).f1) (wrap64 ((((rd_T59 l0_1 a1).f1).length : Int) - 1))).f0) < (l0_0.length : Int) then (some ((rd_T95 l0_0 ((rd_T132 ((rd_T59 l0_1 a1).f1) (wrap64 ((((rd_T59 l0_1 a1).f1).length : Int) - 1))).f0)).f0, (rd_T95 l0_0 ((rd_T132 ((rd_T59 l0_1 a1).f1) (wrap64 ((((rd_T59 l0_1 a1).f1).length : Int) - 1))).f0)).f1, (rd_T95 l0_0 ((rd_T132 ((rd_T59 l0_1 a1).f1) (wrap64 ((((rd_T59 l0_1 a1).f1).length : Int) - 1))).f0)).f2, (rd_T95 l0_0 ((rd_T132 ((rd_T59 l0_1 a1).f1) (wrap64 ((((rd_T59 l0_1 a1).f1).length : Int) - 1))).f0)).f3)) else (none)) else (none)) else (none)) else (none)) else (none)) else (none)) = some (r1, r2, r3, r4) := h
 clear h
 obtain ⟨c3, H⟩ := ifS H
 have c3b0 := decide_eq_true c3
 clear c3
 obtain ⟨c4, H⟩ := ifS H
 have c4b0 := decide_eq_true c4
 clear c4
 obtain ⟨ji5, hji5⟩ : ∃ j_ : Int, (wrap64 ((((rd_T59 l0_1 a1).f1).length : Int) - 1)) = j_ := ⟨_, rfl⟩
 (first | rw [hji5] at H | simp only [hji5] at H)
 have hji5w : (IntKind.i64.wrap ((((rd_T59 l0_1 a1).f1).length : Int) - 1)) = ji5 := (i64_w _).trans hji5
 obtain ⟨c6, H⟩ := ifS H
 have c6b0 := decide_eq_true c6
 clear c6
 obtain ⟨c7, H⟩ := ifS H
 have c7b0 := decide_eq_true c7
 clear c7
 obtain ⟨c8, H⟩ := ifS H
 have c8b0 := decide_eq_true c8
 clear c8
 obtain ⟨c9, H⟩ := ifS H
 have c9b0 := decide_eq_true c9
 clear c9
 simp only [Option.some.injEq, Prod.mk.injEq] at H
 obtain ⟨rfl, rfl, rfl, rfl⟩ := H
 go_enter Tryz.func103, Tryz.ntmps103
 try go_wp2_with (first | (refine bxe 2 #[.slice A0_0 l0_0.length c0_0, .slice A0_1 l0_1.length c0_1, .slice A0_2 l0_2.length c0_2, .int .i64 a0_3, .int .i64 a0_4] 33 ?_; intro gb11 hg w10 hbox hb; have BK11 := Aside0.mk (hbox); have GW11 := Aside0.mk (gwe hg : w.heap.size ≤ _); have GE11 := GW11; replace HB := hbs hb; clear hb hbox hg) | (refine bxe 4 #[.int .i64 0, .int .i64 0, .int .i64 0, .int .i64 0] 95 ?_; intro gb12 hg w11 hbox hb; have BK12 := Aside0.mk (hbox); have GW12 := Aside0.mk (gwe hg : w.heap.size ≤ _); have GE12 := GW12; have NB11_12 := Aside0.mk (nbl hg BK11); have NB12_11 := Aside0.mk (nbg hg BK11); replace BK11 := kb BK11 hb; replace HB := hbs hb; clear hb hbox hg; have hnb12 := NB11_12.out; have hnc12 := NB12_11.out; obtain ⟨_, _, _, _, _, _, _, _, _, _⟩ := box5 BK11; have p13 : 0 ≤ (a1 : Int) := pq0; have q13 : a1 < (l0_1.length : Int) := pq0; obtain ⟨ad13, A13_1, c13_1, A13_2, c13_2, e13, hx13_0, hx13_1, hx13_2, hl13_1, hi13_1, hl13_2, hi13_2⟩ := at_T59 HR0_1.out a1 p13 q13; cases e13; replace hx13_0 := hxb hx13_0; replace hx13_1 := hxb hx13_1; replace hx13_2 := hxb hx13_2; have HR13_1 := Aside0.mk hi13_1; have HC13_1 := Aside0.mk hl13_1; clear hi13_1 hl13_1; have HR13_2 := Aside0.mk hi13_2; have HC13_2 := Aside0.mk hl13_2; clear hi13_2 hl13_2; replace p13 := eq_true p13; replace q13 := eq_true q13))
 replace BK11 := Aside0.mk (blk_drew BK11.out); replace BK12 := Aside0.mk (blk_drew BK12.out); replace HB := Aside0.mk (below_drew1 HB.out)
 have p14 : 0 ≤ ((ji5) : Int) := pq0
 have q14 : (ji5) < (((rd_T59 l0_1 a1).f1).length : Int) := pq0
 obtain ⟨ad14, e14, hx14_0, hx14_1, hx14_2⟩ := at_T132 HR13_1.out (ji5) p14 q14; have hw14_2 := hx14_2; have hw14_1 := hx14_1; have hw14_0 := hx14_0
 cases e14
 replace hx14_0 := hxb hx14_0; replace hx14_1 := hxb hx14_1; replace hx14_2 := hxb hx14_2; replace p14 := eq_true p14; replace q14 := eq_true q14
 have p15 : 0 ≤ (((rd_T132 ((rd_T59 l0_1 a1).f1) (ji5)).f0) : Int) := pq0
 have q15 : ((rd_T132 ((rd_T59 l0_1 a1).f1) (ji5)).f0) < (l0_0.length : Int) := pq0
 obtain ⟨ad15, e15, hx15_0, hx15_1, hx15_2, hx15_3⟩ := at_T95 HR0_0.out ((rd_T132 ((rd_T59 l0_1 a1).f1) (ji5)).f0) p15 q15; have hw15_3 := hx15_3; have hw15_2 := hx15_2; have hw15_1 := hx15_1; have hw15_0 := hx15_0
 cases e15
 replace hx15_0 := hxb hx15_0; replace hx15_1 := hxb hx15_1; replace hx15_2 := hxb hx15_2; replace hx15_3 := hxb hx15_3; replace p15 := eq_true p15; replace q15 := eq_true q15
 refine start_ (n := 12) (S := fun w' => w'.cell? ⟨gb11, 0, none⟩ = some (.slice (some ad15) l0_0.length c0_0) ∧ w'.cell? ⟨gb11, 1, none⟩ = some (.slice (some ad13) l0_1.length c0_1) ∧ w'.cell? ⟨gb11, 2, none⟩ = some (.slice A0_2 l0_2.length c0_2) ∧ w'.cell? ⟨gb11, 3, none⟩ = some (.int .i64 a0_3) ∧ w'.cell? ⟨gb11, 4, none⟩ = some (.int .i64 a0_4) ∧ w'.cell? (ad14.add (((ji5)).toNat * 3)) = some (.int .i64 ((rd_T132 ((rd_T59 l0_1 a1).f1) (ji5)).f0)) ∧ w'.cell? ⟨(ad14.add (((ji5)).toNat * 3)).block, (ad14.add (((ji5)).toNat * 3)).off + 1, none⟩ = some (.int .i64 ((rd_T132 ((rd_T59 l0_1 a1).f1) (ji5)).f1)) ∧ w'.cell? ⟨(ad14.add (((ji5)).toNat * 3)).block, (ad14.add (((ji5)).toNat * 3)).off + 2, none⟩ = some (.int .i64 ((rd_T132 ((rd_T59 l0_1 a1).f1) (ji5)).f2)) ∧ w'.cell? (ad15.add ((((rd_T132 ((rd_T59 l0_1 a1).f1) (ji5)).f0)).toNat * 4)) = some (.int .i64 ((rd_T95 l0_0 ((rd_T132 ((rd_T59 l0_1 a1).f1) (ji5)).f0)).f0)) ∧ w'.cell? ⟨(ad15.add ((((rd_T132 ((rd_T59 l0_1 a1).f1) (ji5)).f0)).toNat * 4)).block, (ad15.add ((((rd_T132 ((rd_T59 l0_1 a1).f1) (ji5)).f0)).toNat * 4)).off + 1, none⟩ = some (.int .i64 ((rd_T95 l0_0 ((rd_T132 ((rd_T59 l0_1 a1).f1) (ji5)).f0)).f1)) ∧ w'.cell? ⟨(ad15.add ((((rd_T132 ((rd_T59 l0_1 a1).f1) (ji5)).f0)).toNat * 4)).block, (ad15.add ((((rd_T132 ((rd_T59 l0_1 a1).f1) (ji5)).f0)).toNat * 4)).off + 2, none⟩ = some (.int .i64 ((rd_T95 l0_0 ((rd_T132 ((rd_T59 l0_1 a1).f1) (ji5)).f0)).f2)) ∧ w'.cell? ⟨(ad15.add ((((rd_T132 ((rd_T59 l0_1 a1).f1) (ji5)).f0)).toNat * 4)).block, (ad15.add ((((rd_T132 ((rd_T59 l0_1 a1).f1) (ji5)).f0)).toNat * 4)).off + 3, none⟩ = some (.int .i64 ((rd_T95 l0_0 ((rd_T132 ((rd_T59 l0_1 a1).f1) (ji5)).f0)).f3))) (ds := []) _ (by kernel_rfl) rfl rfl ⟨bz BK11 0, bz BK11 1, bz BK11 2, bz BK11 3, bz BK11 4, (hxb hw14_0), (hxb hw14_1), (hxb hw14_2), (hxb hw15_0), (hxb hw15_1), (hxb hw15_2), (hxb hw15_3)⟩ (fun hHeld => ?_); refine with_tabW spec_l30Next.tab2 spec_l30Next.bits2 (fun HT_ HW_ => ?_)
 generalize w11.drew = w14 at BK11 BK12 HB hx14_0 hx14_1 hx14_2 hx15_0 hx15_1 hx15_2 hx15_3 hHeld ⊢; refine pm 0 12 ?_; refine pm 2 14 ?_; refine pm 3 15 ?_; refine pm 4 16 ?_; refine pm 5 17 ?_; refine pm 6 18 ?_; refine pm 7 19 ?_; refine tm12 1 13 ?_; refine tm12 8 20 ?_; refine pm 9 21 ?_; refine tm12 10 22 ?_
 refine one_ (i := 11) (N := none) #[true, true, true, true, true, true, true, true, true, true, true, true] rfl rfl (one_of HT_.out (by kernel_rfl)) (by decide) (fun K hK => ?_)
 have hs15 : w14.cell? ⟨gb12, 0, none⟩ = some (.int .i64 0) := (blk_cell BK12.out 0).trans rfl
 have hfs15 := blk_frozen BK12.out 0; have hns15_0 := NB11_12.out; have hms15_0 := NB12_11.out
 have hs16 : w14.cell? ⟨gb12, 1, none⟩ = some (.int .i64 0) := (blk_cell BK12.out 1).trans rfl
 have hfs16 := blk_frozen BK12.out 1; have hns16_0 := NB11_12.out; have hms16_0 := NB12_11.out
 have hs17 : w14.cell? ⟨gb12, 2, none⟩ = some (.int .i64 0) := (blk_cell BK12.out 2).trans rfl
 have hfs17 := blk_frozen BK12.out 2; have hns17_0 := NB11_12.out; have hms17_0 := NB12_11.out
 have hs18 : w14.cell? ⟨gb12, 3, none⟩ = some (.int .i64 0) := (blk_cell BK12.out 3).trans rfl
 have hfs18 := blk_frozen BK12.out 3; have hns18_0 := NB11_12.out; have hms18_0 := NB12_11.out
 refine skip_ (w1 := ?_) (by rfl) rfl ?_ ?_
 rotate_left
 ·go_simp
  rfl
 refine hK.out _ _ ⟨((cell_far (p := ⟨gb12, _, none⟩) NB11_12.out _).trans (((cell_far (p := ⟨gb12, _, none⟩) NB11_12.out _).trans (((cell_far (p := ⟨gb12, _, none⟩) NB11_12.out _).trans (((cell_far (p := ⟨gb12, _, none⟩) NB11_12.out _).trans (hHeld.1)))))))), ((cell_far (p := ⟨gb12, _, none⟩) NB11_12.out _).trans (((cell_far (p := ⟨gb12, _, none⟩) NB11_12.out _).trans (((cell_far (p := ⟨gb12, _, none⟩) NB11_12.out _).trans (((cell_far (p := ⟨gb12, _, none⟩) NB11_12.out _).trans (hHeld.2.1)))))))), ((cell_far (p := ⟨gb12, _, none⟩) NB11_12.out _).trans (((cell_far (p := ⟨gb12, _, none⟩) NB11_12.out _).trans (((cell_far (p := ⟨gb12, _, none⟩) NB11_12.out _).trans (((cell_far (p := ⟨gb12, _, none⟩) NB11_12.out _).trans (hHeld.2.2.1)))))))), ((cell_far (p := ⟨gb12, _, none⟩) NB11_12.out _).trans (((cell_far (p := ⟨gb12, _, none⟩) NB11_12.out _).trans (((cell_far (p := ⟨gb12, _, none⟩) NB11_12.out _).trans (((cell_far (p := ⟨gb12, _, none⟩) NB11_12.out _).trans (hHeld.2.2.2.1)))))))), ((cell_far (p := ⟨gb12, _, none⟩) NB11_12.out _).trans (((cell_far (p := ⟨gb12, _, none⟩) NB11_12.out _).trans (((cell_far (p := ⟨gb12, _, none⟩) NB11_12.out _).trans (((cell_far (p := ⟨gb12, _, none⟩) NB11_12.out _).trans (hHeld.2.2.2.2.1)))))))), ((cell_far (p := ⟨gb12, _, none⟩) (nlv hw14_0 GW12) _).trans (((cell_far (p := ⟨gb12, _, none⟩) (nlv hw14_0 GW12) _).trans (((cell_far (p := ⟨gb12, _, none⟩) (nlv hw14_0 GW12) _).trans (((cell_far (p := ⟨gb12, _, none⟩) (nlv hw14_0 GW12) _).trans (hHeld.2.2.2.2.2.1)))))))), ((cell_far (p := ⟨gb12, _, none⟩) (nlv hw14_1 GW12) _).trans (((cell_far (p := ⟨gb12, _, none⟩) (nlv hw14_1 GW12) _).trans (((cell_far (p := ⟨gb12, _, none⟩) (nlv hw14_1 GW12) _).trans (((cell_far (p := ⟨gb12, _, none⟩) (nlv hw14_1 GW12) _).trans (hHeld.2.2.2.2.2.2.1)))))))), ((cell_far (p := ⟨gb12, _, none⟩) (nlv hw14_2 GW12) _).trans (((cell_far (p := ⟨gb12, _, none⟩) (nlv hw14_2 GW12) _).trans (((cell_far (p := ⟨gb12, _, none⟩) (nlv hw14_2 GW12) _).trans (((cell_far (p := ⟨gb12, _, none⟩) (nlv hw14_2 GW12) _).trans (hHeld.2.2.2.2.2.2.2.1)))))))), ((cell_far (p := ⟨gb12, _, none⟩) (nlv hw15_0 GW12) _).trans (((cell_far (p := ⟨gb12, _, none⟩) (nlv hw15_0 GW12) _).trans (((cell_far (p := ⟨gb12, _, none⟩) (nlv hw15_0 GW12) _).trans (((cell_far (p := ⟨gb12, _, none⟩) (nlv hw15_0 GW12) _).trans (hHeld.2.2.2.2.2.2.2.2.1)))))))), ((cell_far (p := ⟨gb12, _, none⟩) (nlv hw15_1 GW12) _).trans (((cell_far (p := ⟨gb12, _, none⟩) (nlv hw15_1 GW12) _).trans (((cell_far (p := ⟨gb12, _, none⟩) (nlv hw15_1 GW12) _).trans (((cell_far (p := ⟨gb12, _, none⟩) (nlv hw15_1 GW12) _).trans (hHeld.2.2.2.2.2.2.2.2.2.1)))))))), ((cell_far (p := ⟨gb12, _, none⟩) (nlv hw15_2 GW12) _).trans (((cell_far (p := ⟨gb12, _, none⟩) (nlv hw15_2 GW12) _).trans (((cell_far (p := ⟨gb12, _, none⟩) (nlv hw15_2 GW12) _).trans (((cell_far (p := ⟨gb12, _, none⟩) (nlv hw15_2 GW12) _).trans (hHeld.2.2.2.2.2.2.2.2.2.2.1)))))))), ((cell_far (p := ⟨gb12, _, none⟩) (nlv hw15_3 GW12) _).trans (((cell_far (p := ⟨gb12, _, none⟩) (nlv hw15_3 GW12) _).trans (((cell_far (p := ⟨gb12, _, none⟩) (nlv hw15_3 GW12) _).trans (((cell_far (p := ⟨gb12, _, none⟩) (nlv hw15_3 GW12) _).trans (hHeld.2.2.2.2.2.2.2.2.2.2.2))))))))⟩ (fun hHeld => ?_); clear hK K
 refine done_ (done_of HT_.out (by kernel_rfl)) ?_
 try go_wp2
 refine bodyPost_ret (results_cell_row rfl _ _ gb12 95 #[.int .i64 ((rd_T95 l0_0 ((rd_T132 ((rd_T59 l0_1 a1).f1) (ji5)).f0)).f0), .int .i64 ((rd_T95 l0_0 ((rd_T132 ((rd_T59 l0_1 a1).f1) (ji5)).f0)).f1), .int .i64 ((rd_T95 l0_0 ((rd_T132 ((rd_T59 l0_1 a1).f1) (ji5)).f0)).f2), .int .i64 ((rd_T95 l0_0 ((rd_T132 ((rd_T59 l0_1 a1).f1) (ji5)).f0)).f3)] (0, 0) _ rfl (bkp) Tryz.underlying95 rfl (by kernel_rfl)) rfl ?_
 exact ⟨by first | rfl | (simp [errW_none, errW_some] <;> rfl) | (simp only [← hji5]; first | rfl | (simp [errW_none, errW_some] <;> rfl)) | (simp [*, errW_none, errW_some] <;> rfl), bels⟩

/-! ### spec_IsLocal: function 104 -/
def spec_IsLocal.f (a0_0 : Int) (a0_1 : Int) (a0_2 : Int) (a0_3 : Int) : Option (Bool) := (spec_l01In.f a0_0 0 12).bind fun t12 => (some t12)
set_option maxHeartbeats 8000000 in
set_option maxRecDepth 100000 in
theorem spec_IsLocal.calls (a0_0 : Int) (a0_1 : Int) (a0_2 : Int) (a0_3 : Int) (r : Bool) (w : World) (h : spec_IsLocal.f a0_0 a0_1 a0_2 a0_3 = some r) :
  Calls Tryz.prog 104 #[.agg #[.int .i64 a0_0, .int .i64 a0_1, .int .i64 a0_2, .int .i64 a0_3]] w fun e w' => e = .returned (.bool r) ∧ Below w.heap.size w w' := by
 have hu95 := Tryz.underlying95; have HB := Aside0.mk (Below.refl w.heap.size w)
 have H : ((spec_l01In.f a0_0 0 12).bind fun t12 => (some t12)) = some r := h
 clear h; obtain ⟨t12, A2, H⟩ := bnd H; (try dsimp only at H); obtain rfl := oI H
 go_enter Tryz.func104, Tryz.ntmps104
 go_wp2_with (first | (refine bxe 1 #[.int .i64 a0_0, .int .i64 a0_1, .int .i64 a0_2, .int .i64 a0_3] 95 ?_; intro gb11 hg w3 hbox hb; have BK11 := Aside0.mk (hbox); have GW11 := Aside0.mk (gwe hg : w.heap.size ≤ _); have GE11 := GW11; replace HB := hbs hb; clear hb hbox hg; obtain ⟨_, _, _, _, _, _, _, _⟩ := box4 BK11) | (refine gL 59 (some 5) Tryz.func59 #[.int .i64 a0_0, .int .i64 0, .int .i64 12] ?_; (with_reducible refine (spec_l01In.calls a0_0 0 12 t12 _ A2.out).mono ?_); rintro e w' ⟨rfl, ⟨nd, rfl⟩⟩; refine ⟨_, rfl, ?_⟩))
 go_ret
 exact ⟨rfe, bels⟩

/-! ### spec_ActiveMask: function 176 -/
def spec_ActiveMask.f (a0_0 : Int) (l0_1 : List (S132)) (l0_2 : List Int) : Option (Int) := if (l0_1.length : Int) = 0 then (some 0) else (if 0 ≤ (wrap64 ((l0_1.length : Int) - 1)) then (if (wrap64 ((l0_1.length : Int) - 1)) < (l0_1.length : Int) then (some ((rd_T132 l0_1 (wrap64 ((l0_1.length : Int) - 1))).f2)) else (none)) else (none))
set_option maxHeartbeats 8000000 in
set_option maxRecDepth 100000 in
theorem spec_ActiveMask.calls (a0_0 : Int) (A0_1 : Option Addr) (c0_1 : Nat) (l0_1 : List (S132)) (A0_2 : Option Addr) (c0_2 : Nat) (l0_2 : List Int) (r : Int) (w : World) (hr0_1 : Kd.C k132 w A0_1 l0_1.length l0_1) (hc0_1 : l0_1.length ≤ c0_1) (hr0_2 : Kd.C (Kd.int .i64) w A0_2 l0_2.length l0_2) (hc0_2 : l0_2.length ≤ c0_2) (h : spec_ActiveMask.f a0_0 l0_1 l0_2 = some r) :
  Calls Tryz.prog 176 #[.agg #[.int .i64 a0_0, .slice A0_1 l0_1.length c0_1, .slice A0_2 l0_2.length c0_2]] w fun e w' => e = .returned (.int .i64 r) ∧ Below w.heap.size w w' := by
 have hu59 := Tryz.underlying59; have HR0_1 := Aside0.mk hr0_1; have HC0_1 := Aside0.mk hc0_1; clear hr0_1 hc0_1; have HR0_2 := Aside0.mk hr0_2; have HC0_2 := Aside0.mk hc0_2; clear hr0_2 hc0_2; have HB := Aside0.mk (Below.refl w.heap.size w)
 have H : (if (l0_1.length : Int) = 0 then (some 0) else (if 0 ≤ (wrap64 ((l0_1.length : Int) - 1)) then (if (wrap64 ((l0_1.length : Int) - 1)) < (l0_1.length : Int) then (some ((rd_T132 l0_1 (wrap64 ((l0_1.length : Int) - 1))).f2)) else (none)) else (none))) = some r := h
 clear h
 by_cases c2 : (l0_1.length : Int) = 0
 ·rw [if_pos c2] at H
  have c2b0 : ((l0_1.length : Int) == 0) = true := beq_iff_eq.mpr c2
  have c2b1 : ((l0_1.length : Int) != 0) = false := bne_eq_false_iff_eq.mpr c2
  clear c2; obtain rfl := oI H
  go_enter Tryz.func176, Tryz.ntmps176
  go_wp2_with (first | (refine bxe 1 #[.int .i64 a0_0, .slice A0_1 l0_1.length c0_1, .slice A0_2 l0_2.length c0_2] 59 ?_; intro gb11 hg w3 hbox hb; have BK11 := Aside0.mk (hbox); have GW11 := Aside0.mk (gwe hg : w.heap.size ≤ _); have GE11 := GW11; replace HB := hbs hb; clear hb hbox hg; obtain ⟨_, _, _, _, _, _⟩ := box3 BK11))
  go_ret
  exact ⟨rfe, bels⟩
 ·rw [if_neg c2] at H
  have c2b0 : ((l0_1.length : Int) == 0) = false := beq_eq_false_iff_ne.mpr c2
  have c2b1 : ((l0_1.length : Int) != 0) = true := bne_iff_ne.mpr c2
  have c2b2 : ¬ (l0_1 = []) := fun h_ => c2 (by rw [h_]; rfl)
  obtain ⟨ji5, hji5⟩ : ∃ j_ : Int, (wrap64 ((l0_1.length : Int) - 1)) = j_ := ⟨_, rfl⟩
  (first | rw [hji5] at H | simp only [hji5] at H)
  have hji5w : (IntKind.i64.wrap ((l0_1.length : Int) - 1)) = ji5 := (i64_w _).trans hji5
  obtain ⟨c6, H⟩ := ifS H
  have c6b0 := decide_eq_true c6
  clear c6
  obtain ⟨c7, H⟩ := ifS H
  have c7b0 := decide_eq_true c7
  clear c7; obtain rfl := oI H
  go_enter Tryz.func176, Tryz.ntmps176
  go_wp2_with (first | (refine bxe 1 #[.int .i64 a0_0, .slice A0_1 l0_1.length c0_1, .slice A0_2 l0_2.length c0_2] 59 ?_; intro gb11 hg w8 hbox hb; have BK11 := Aside0.mk (hbox); have GW11 := Aside0.mk (gwe hg : w.heap.size ≤ _); have GE11 := GW11; replace HB := hbs hb; clear hb hbox hg; obtain ⟨_, _, _, _, _, _⟩ := box3 BK11; have p12 : 0 ≤ ((ji5) : Int) := pq0; have q12 : (ji5) < (l0_1.length : Int) := pq0; obtain ⟨ad12, e12, hx12_0, hx12_1, hx12_2⟩ := at_T132 HR0_1.out (ji5) p12 q12; cases e12; replace hx12_0 := hxb hx12_0; replace hx12_1 := hxb hx12_1; replace hx12_2 := hxb hx12_2; replace p12 := eq_true p12; replace q12 := eq_true q12))
  go_ret
  exact ⟨by first | rfl | (simp [errW_none, errW_some] <;> rfl) | (simp only [← hji5]; first | rfl | (simp [errW_none, errW_some] <;> rfl)) | (simp [*, errW_none, errW_some] <;> rfl), bels⟩

/-! ### spec_HasLane: function 177 -/
def spec_HasLane.f (a0 : Int) (a1 : Int) : Option (Bool) := (spec_IsMask.f a0).bind fun t11 => (if t11 = true then ((spec_l01In.f a1 0 7).bind fun t12 => (if t12 = true then (if 0 ≤ a1 then (some ((Go.bits .and .i64 (shr .i64 a0 a1) 1) == 1)) else (none)) else (some false))) else (some false))
set_option maxHeartbeats 8000000 in
set_option maxRecDepth 100000 in
theorem spec_HasLane.calls (a0 : Int) (a1 : Int) (r : Bool) (w : World) (h : spec_HasLane.f a0 a1 = some r) :
  Calls Tryz.prog 177 #[.int .i64 a0, .int .i64 a1] w fun e w' => e = .returned (.bool r) ∧ Drawn0 w w' := by
 have H : ((spec_IsMask.f a0).bind fun t11 => (if t11 = true then ((spec_l01In.f a1 0 7).bind fun t12 => (if t12 = true then (if 0 ≤ a1 then (some ((Go.bits .and .i64 (shr .i64 a0 a1) 1) == 1)) else (none)) else (some false))) else (some false))) = some r := h
 clear h; obtain ⟨t11, A3, H⟩ := bnd H; (try dsimp only at H)
 by_cases c4 : t11 = true
 ·subst c4; rw [if_pos rfl] at H; obtain ⟨t12, A5, H⟩ := bnd H; (try dsimp only at H)
  by_cases c6 : t12 = true
  ·subst c6; rw [if_pos rfl] at H
   obtain ⟨c7, H⟩ := ifS H; have c7b0 := eq_true c7
   have c7b1 := decide_eq_true c7
   clear c7
   obtain ⟨ji8, hji8⟩ : ∃ j_ : Int, (shr .i64 a0 a1) = j_ := ⟨_, rfl⟩
   (first | rw [hji8] at H | simp only [hji8] at H)
   (try rw [hji8] at A3)
   (try rw [hji8] at A5)
   have hji8_ : (a0 / 2 ^ min a1.toNat 64) = ji8 := hji8
   have hji8z : a1 ≤ 64 → (a0 / 2 ^ a1.toNat) = ji8 := shr_small hji8
   obtain rfl := oI H
   go_enter Tryz.func177, Tryz.ntmps177
   go_wp2_with (first | (refine gL 102 (some 6) Tryz.func102 #[.int .i64 a0] ?_; (with_reducible refine (spec_IsMask.calls a0 true _ A3.out).mono ?_); rintro e w' ⟨rfl, ⟨nd, rfl⟩⟩; refine ⟨_, rfl, ?_⟩) | (go_at_call 59; (with_reducible refine (spec_l01In.calls a1 0 7 true _ A5.out).mono ?_); rintro e w' ⟨rfl, ⟨nd, rfl⟩⟩))
   go_ret
   exact ⟨by first | rfl | (simp; done) | (simp only [← hji8] <;> (first | rfl | simp)) | (simp [*]; done), by repeat (first | exact Drawn0.refl _ | apply Drawn0.step)⟩
  ·replace c6 := Bool.eq_false_iff.mpr c6; subst c6; rw [if_neg (by decide)] at H; obtain rfl := oI H
   go_enter Tryz.func177, Tryz.ntmps177
   go_wp2_with (first | (refine gL 102 (some 6) Tryz.func102 #[.int .i64 a0] ?_; (with_reducible refine (spec_IsMask.calls a0 true _ A3.out).mono ?_); rintro e w' ⟨rfl, ⟨nd, rfl⟩⟩; refine ⟨_, rfl, ?_⟩) | (go_at_call 59; (with_reducible refine (spec_l01In.calls a1 0 7 false _ A5.out).mono ?_); rintro e w' ⟨rfl, ⟨nd, rfl⟩⟩))
   go_ret
   exact ⟨by first | rfl | (simp; done) | (simp [*]; done), by repeat (first | exact Drawn0.refl _ | apply Drawn0.step)⟩
 ·replace c4 := Bool.eq_false_iff.mpr c4; subst c4; rw [if_neg (by decide)] at H; obtain rfl := oI H
  go_enter Tryz.func177, Tryz.ntmps177
  go_wp2_with (first | (refine gL 102 (some 6) Tryz.func102 #[.int .i64 a0] ?_; (with_reducible refine (spec_IsMask.calls a0 false _ A3.out).mono ?_); rintro e w' ⟨rfl, ⟨nd, rfl⟩⟩; refine ⟨_, rfl, ?_⟩))
  go_ret
  exact ⟨by first | rfl | (simp; done) | (simp [*]; done), by repeat (first | exact Drawn0.refl _ | apply Drawn0.step)⟩

/-! ### spec_ZeroMask: function 168 -/
mutual
def spec_ZeroMask.j0 : Nat → Int → Bool → Int → List (S132) → List Int → Option (Int)
  | 0, _, _, _, _, _ => none
  | k + 1, x1, x15, x12000, x12001, x12002 => if x15 = true then (some 0) else (spec_ZeroMask.l0 k x1 0 0 x12000 x12001 x12002)
def spec_ZeroMask.l0 : Nat → Int → Int → Int → Int → List (S132) → List Int → Option (Int)
  | 0, _, _, _, _, _, _ => none
  | k + 1, x1, x5, x6, x12000, x12001, x12002 => if x6 < 8 then ((spec_ActiveMask.f x12000 x12001 x12002).bind fun t13 => ((spec_HasLane.f t13 x6).bind fun t14 => (if t14 = true then (if 0 ≤ (wrap64 ((wrap64 (x6 * 4)) + x1)) then (if (wrap64 ((wrap64 (x6 * 4)) + x1)) < (x12002.length : Int) then (if (rd x12002 (wrap64 ((wrap64 (x6 * 4)) + x1))) = 0 then (if 0 ≤ x6 then (spec_ZeroMask.l0 k x1 (Go.bits .or .i64 x5 (shl .i64 1 x6)) (wrap64 (x6 + 1)) x12000 x12001 x12002) else (none)) else (spec_ZeroMask.l0 k x1 x5 (wrap64 (x6 + 1)) x12000 x12001 x12002)) else (none)) else (none)) else (spec_ZeroMask.l0 k x1 x5 (wrap64 (x6 + 1)) x12000 x12001 x12002)))) else (some x5)
end
def spec_ZeroMask.f (k : Nat) (a0_0 : Int) (l0_1 : List (S132)) (l0_2 : List Int) (a1 : Int) : Option (Int) := (spec_l04Reg.f a1).bind fun t12 => (if t12 = true then (spec_ZeroMask.j0 k a1 ((l0_2.length : Int) != 32) a0_0 l0_1 l0_2) else (spec_ZeroMask.j0 k a1 true a0_0 l0_1 l0_2))
set_option maxHeartbeats 8000000 in
set_option maxRecDepth 100000 in
theorem spec_ZeroMask.calls (k : Nat) (a0_0 : Int) (A0_1 : Option Addr) (c0_1 : Nat) (l0_1 : List (S132)) (A0_2 : Option Addr) (c0_2 : Nat) (l0_2 : List Int) (a1 : Int) (r : Int) (w : World) (hr0_1 : Kd.C k132 w A0_1 l0_1.length l0_1) (hc0_1 : l0_1.length ≤ c0_1) (hr0_2 : Kd.C (Kd.int .i64) w A0_2 l0_2.length l0_2) (hc0_2 : l0_2.length ≤ c0_2) (h : spec_ZeroMask.f k a0_0 l0_1 l0_2 a1 = some r) :
    Calls Tryz.prog 168 #[.agg #[.int .i64 a0_0, .slice A0_1 l0_1.length c0_1, .slice A0_2 l0_2.length c0_2], .int .i64 a1] w fun e w' => e = .returned (.int .i64 r) ∧ Below w.heap.size w w' := by
  have hu59 := Tryz.underlying59
  have HR0_1 := Aside0.mk hr0_1
  have HC0_1 := Aside0.mk hc0_1
  clear hr0_1 hc0_1
  have HR0_2 := Aside0.mk hr0_2
  have HC0_2 := Aside0.mk hc0_2
  clear hr0_2 hc0_2
  have HB := Aside0.mk (Below.refl w.heap.size w)
  have H : ((spec_l04Reg.f a1).bind fun t12 => (if t12 = true then (spec_ZeroMask.j0 k a1 ((l0_2.length : Int) != 32) a0_0 l0_1 l0_2) else (spec_ZeroMask.j0 k a1 true a0_0 l0_1 l0_2))) = some r := h
  clear h
  have HC3 := Aside0.mk H
  clear H
  go_enter Tryz.func168, Tryz.ntmps168
  go_upto_region 1 with (first | ((with_reducible refine gate_dst (N := 2) rfl ?_); (try (refine gate_guard (by rfl) ?_; dsimp only)); refine box_event ?hg (N := 2) ?hd (cs := #[.int .i64 a0_0, .slice A0_1 l0_1.length c0_1, .slice A0_2 l0_2.length c0_2]) (t := 59) ?hr ?_; (case hd => rfl); (case hg => rfl); (case hr => first | (go_simp; done) | (go_simp; rfl)); intro gb11 hg w4 hbox hb; have n0_ := Aside0.mk (below_step (by repeat (first | (with_reducible first | exact HB.out | apply below_alloc | apply pw_below_drewN | apply below_drew1) | exact HB.out)) hb); have n1_ := Aside0.mk (hbox); have n2_ := Aside0.mk ((by rw [hg]; exact (below_size (by repeat (first | (with_reducible first | exact HB.out | apply below_alloc | apply pw_below_drewN | apply below_drew1) | exact HB.out))) : w.heap.size ≤ gb11)); have n3_ := Aside0.mk ((by rw [hg]; exact (below_size (by repeat (first | (with_reducible first | exact HB.out | apply below_alloc | apply pw_below_drewN | apply below_drew1) | exact HB.out))) : w.heap.size ≤ gb11)); clear HB; have HB := n0_; have BK11 := n1_; have GW11 := n2_; have GE11 := n3_; clear n0_ n1_ n2_ n3_; clear hb hbox hg))
  (try simp only [Act.put, List.setIfInBounds_toArray, List.set_cons_zero, List.set_cons_succ])
  go_cut [15] (fun v15 wc => ∃ (kq : Nat) (x15_2 : Bool), v15 = .bool x15_2 ∧ Aside0 (spec_ZeroMask.j0 kq a1 x15_2 a0_0 l0_1 l0_2 = some r) ∧ Aside0 (kq ≤ k) ∧ Aside0 (wc.heap[gb11]? = some (.cells #[.int .i64 a0_0, (.slice A0_1 l0_1.length c0_1), (.slice A0_2 l0_2.length c0_2)] 59 (0, 0))) ∧ Aside0 (Below w.heap.size w wc))
  case first =>
    have H := HC3.out
    clear HC3
    replace H := Option.bind_eq_some_iff.mp H
    obtain ⟨t12, A50, H⟩ := H
    replace H : (if t12 = true then (spec_ZeroMask.j0 k a1 ((l0_2.length : Int) != 32) a0_0 l0_1 l0_2) else (spec_ZeroMask.j0 k a1 true a0_0 l0_1 l0_2)) = some r := H
    have A5 := Aside0.mk A50
    clear A50
    by_cases c6 : t12 = true
    · subst c6
      have H1 : (spec_ZeroMask.j0 k a1 ((l0_2.length : Int) != 32) a0_0 l0_1 l0_2) = some r := by rw [if_pos rfl] at H; exact H
      clear H
      have H := H1
      clear H1
      have H' := Aside0.mk H
      clear H
      go_wp2_with (first | ((with_reducible refine gate_callee (f := 137) rfl ?_); refine goesL_ (some 8) rfl rfl Tryz.func137 (by kernel_rfl) rfl #[.int .i64 a1] rfl (by (try simp only [List.map_toArray, List.map_cons, List.map_nil]); first | done | rfl | (simp only [List.length_drop, List.length_take]; rfl)) ?_; (with_reducible refine (spec_l04Reg.calls a1 true _ A5.out).mono ?_); rintro e w' ⟨rfl, ⟨nd, rfl⟩⟩; refine ⟨_, rfl, ?_⟩; have hcz7_0 : w4.cell? ⟨gb11, 0, none⟩ = some (.int .i64 a0_0) := (blk_cell BK11.out 0).trans rfl; have hcz7_1 : w4.cell? ⟨gb11, 1, none⟩ = some (.slice A0_1 l0_1.length c0_1) := (blk_cell BK11.out 1).trans rfl; have hcz7_2 : w4.cell? ⟨gb11, 2, none⟩ = some (.slice A0_2 l0_2.length c0_2) := (blk_cell BK11.out 2).trans rfl; have hfz7_0 := blk_frozen BK11.out 0; have hfz7_1 := blk_frozen BK11.out 1; have hfz7_2 := blk_frozen BK11.out 2))
      go_meet
      case rel => exact ⟨_, (((l0_2.length : Int) != 32)), (by first | rfl | (simp; done) | (simp [*]; done)), H', ⟨by first | omega | exact Nat.le_refl _⟩, ⟨by (with_reducible repeat (first | refine blk_drewN ?_ _ | refine blk_drew ?_ | refine blk_alloc ?_ _)); exact BK11.out⟩, ⟨by repeat (first | (with_reducible first | exact HB.out | apply below_alloc | apply pw_below_drewN | apply below_drew1 | refine below_set ?_ GE11.out) | exact HB.out)⟩⟩
    · replace c6 := Bool.eq_false_iff.mpr c6
      subst c6
      have H1 : (spec_ZeroMask.j0 k a1 true a0_0 l0_1 l0_2) = some r := by rw [if_neg (show ¬ (false = true) by decide)] at H; exact H
      clear H
      have H := H1
      clear H1
      have H' := Aside0.mk H
      clear H
      go_wp2_with (first | ((with_reducible refine gate_callee (f := 137) rfl ?_); refine goesL_ (some 8) rfl rfl Tryz.func137 (by kernel_rfl) rfl #[.int .i64 a1] rfl (by (try simp only [List.map_toArray, List.map_cons, List.map_nil]); first | done | rfl | (simp only [List.length_drop, List.length_take]; rfl)) ?_; (with_reducible refine (spec_l04Reg.calls a1 false _ A5.out).mono ?_); rintro e w' ⟨rfl, ⟨nd, rfl⟩⟩; refine ⟨_, rfl, ?_⟩))
      go_meet
      case rel => exact ⟨_, (true), (by first | rfl | (simp; done) | (simp [*]; done)), H', ⟨by first | omega | exact Nat.le_refl _⟩, ⟨by (with_reducible repeat (first | refine blk_drewN ?_ _ | refine blk_drew ?_ | refine blk_alloc ?_ _)); exact BK11.out⟩, ⟨by repeat (first | (with_reducible first | exact HB.out | apply below_alloc | apply pw_below_drewN | apply below_drew1 | refine below_set ?_ GE11.out) | exact HB.out)⟩⟩
  case rest =>
    clear HC3
    try clear c1
    try clear p2
    try clear c6
    try clear hcz7_0
    try clear hcz7_1
    try clear hcz7_2
    try clear hfz7_0
    try clear hfz7_1
    try clear hfz7_2
    obtain ⟨kq, x15_2, rfl, HA, HJ2, BK11, HB⟩ := hcut
    cases kq with
    | zero => exact absurd HA.out (by simp [spec_ZeroMask.j0])
    | succ kj2 =>
      have H := HA.out
      clear HA
      simp only [spec_ZeroMask.j0] at H
      by_cases c8 : x15_2 = true
      · subst c8
        have H1 : (some 0) = some r := by rw [if_pos rfl] at H; exact H
        clear H
        have H := H1
        clear H1
        obtain rfl := Option.some.inj H
        go_wp2
        go_ret
        exact ⟨by first | rfl | (simp [errW_none, errW_some] <;> rfl) | (simp [*, errW_none, errW_some] <;> rfl), by repeat (first | (with_reducible first | exact HB.out | apply below_alloc | apply pw_below_drewN | apply below_drew1 | refine below_set ?_ GE11.out) | exact HB.out)⟩
      · replace c8 := Bool.eq_false_iff.mpr c8
        subst c8
        have H1 : (spec_ZeroMask.l0 kj2 a1 0 0 a0_0 l0_1 l0_2) = some r := by rw [if_neg (show ¬ (false = true) by decide)] at H; exact H
        clear H
        have H := H1
        clear H1
        have H' := Aside0.mk H
        clear H
        go_wp2
        go_loopg [5, 6] kj2 (fun kq v5 v6 w' => ∃ (x5_2 : Int) (x6_2 : Int), v5 = .int .i64 x5_2 ∧ v6 = .int .i64 x6_2 ∧ Aside0 (spec_ZeroMask.l0 kq a1 x5_2 x6_2 a0_0 l0_1 l0_2 = some r) ∧ Aside0 (kq ≤ kj2) ∧ Aside0 (w'.heap[gb11]? = some (.cells #[.int .i64 a0_0, (.slice A0_1 l0_1.length c0_1), (.slice A0_2 l0_2.length c0_2)] 59 (0, 0))) ∧ Aside0 (Below w.heap.size w w'))
        case atStart => exact ⟨(0), (0), (by first | rfl | (simp; done) | (simp [*]; done)), (by first | rfl | (simp; done) | (simp [*]; done)), H', ⟨Nat.le_refl _⟩, ⟨by (with_reducible repeat (first | refine blk_drewN ?_ _ | refine blk_drew ?_ | refine blk_alloc ?_ _)); exact BK11.out⟩, ⟨by repeat (first | (with_reducible first | exact HB.out | apply below_alloc | apply pw_below_drewN | apply below_drew1 | refine below_set ?_ GE11.out) | exact HB.out)⟩⟩
        case round =>
          clear H'
          try clear c1
          try clear p2
          try clear c6
          try clear c8
          try clear hcz7_0
          try clear hcz7_1
          try clear hcz7_2
          try clear hfz7_0
          try clear hfz7_1
          try clear hfz7_2
          try clear p2
          obtain ⟨x5_2, x6_2, rfl, rfl, HA, HK2, BK11, HB⟩ := hrel
          cases gk with
          | zero => exact absurd HA.out (by simp [spec_ZeroMask.l0])
          | succ k2 =>
            have H := HA.out
            clear HA
            simp only [spec_ZeroMask.l0] at H
            by_cases c9 : x6_2 < 8
            · rw [if_pos c9] at H
              have c9b0 : decide (x6_2 < 8) = true := decide_eq_true c9
              clear c9
              replace H := Option.bind_eq_some_iff.mp H
              obtain ⟨t13, A100, H⟩ := H
              replace H : ((spec_HasLane.f t13 x6_2).bind fun t14 => (if t14 = true then (if 0 ≤ (wrap64 ((wrap64 (x6_2 * 4)) + a1)) then (if (wrap64 ((wrap64 (x6_2 * 4)) + a1)) < (l0_2.length : Int) then (if (rd l0_2 (wrap64 ((wrap64 (x6_2 * 4)) + a1))) = 0 then (if 0 ≤ x6_2 then (spec_ZeroMask.l0 k2 a1 (Go.bits .or .i64 x5_2 (shl .i64 1 x6_2)) (wrap64 (x6_2 + 1)) a0_0 l0_1 l0_2) else (none)) else (spec_ZeroMask.l0 k2 a1 x5_2 (wrap64 (x6_2 + 1)) a0_0 l0_1 l0_2)) else (none)) else (none)) else (spec_ZeroMask.l0 k2 a1 x5_2 (wrap64 (x6_2 + 1)) a0_0 l0_1 l0_2))) = some r := H
              have A10 := Aside0.mk A100
              clear A100
              replace H := Option.bind_eq_some_iff.mp H
              obtain ⟨t14, A110, H⟩ := H
              replace H : (if t14 = true then (if 0 ≤ (wrap64 ((wrap64 (x6_2 * 4)) + a1)) then (if (wrap64 ((wrap64 (x6_2 * 4)) + a1)) < (l0_2.length : Int) then (if (rd l0_2 (wrap64 ((wrap64 (x6_2 * 4)) + a1))) = 0 then (if 0 ≤ x6_2 then (spec_ZeroMask.l0 k2 a1 (Go.bits .or .i64 x5_2 (shl .i64 1 x6_2)) (wrap64 (x6_2 + 1)) a0_0 l0_1 l0_2) else (none)) else (spec_ZeroMask.l0 k2 a1 x5_2 (wrap64 (x6_2 + 1)) a0_0 l0_1 l0_2)) else (none)) else (none)) else (spec_ZeroMask.l0 k2 a1 x5_2 (wrap64 (x6_2 + 1)) a0_0 l0_1 l0_2)) = some r := H
              have A11 := Aside0.mk A110
              clear A110
              by_cases c12 : t14 = true
              · subst c12
                have H1 : (if 0 ≤ (wrap64 ((wrap64 (x6_2 * 4)) + a1)) then (if (wrap64 ((wrap64 (x6_2 * 4)) + a1)) < (l0_2.length : Int) then (if (rd l0_2 (wrap64 ((wrap64 (x6_2 * 4)) + a1))) = 0 then (if 0 ≤ x6_2 then (spec_ZeroMask.l0 k2 a1 (Go.bits .or .i64 x5_2 (shl .i64 1 x6_2)) (wrap64 (x6_2 + 1)) a0_0 l0_1 l0_2) else (none)) else (spec_ZeroMask.l0 k2 a1 x5_2 (wrap64 (x6_2 + 1)) a0_0 l0_1 l0_2)) else (none)) else (none)) = some r := by rw [if_pos rfl] at H; exact H
                clear H
                have H := H1
                clear H1
                obtain ⟨ji13, hji13⟩ : ∃ j_ : Int, (wrap64 ((wrap64 (x6_2 * 4)) + a1)) = j_ := ⟨_, rfl⟩
                replace H : (if 0 ≤ (ji13) then (if (ji13) < (l0_2.length : Int) then (if (rd l0_2 (ji13)) = 0 then (if 0 ≤ x6_2 then (spec_ZeroMask.l0 k2 a1 (Go.bits .or .i64 x5_2 (shl .i64 1 x6_2)) (wrap64 (x6_2 + 1)) a0_0 l0_1 l0_2) else (none)) else (spec_ZeroMask.l0 k2 a1 x5_2 (wrap64 (x6_2 + 1)) a0_0 l0_1 l0_2)) else (none)) else (none)) = some r := by first | (rw [hji13] at H; exact H) | (simp only [hji13] at H ⊢; exact H)
                (try rw [hji13] at A10)
                (try rw [hji13] at A11)
                have hji13w : (IntKind.i64.wrap ((wrap64 (x6_2 * 4)) + a1)) = ji13 := (i64_w _).trans hji13
                by_cases c14 : 0 ≤ (ji13)
                · rw [if_pos c14] at H
                  have c14b0 : decide (0 ≤ (ji13)) = true := decide_eq_true c14
                  clear c14
                  by_cases c15 : (ji13) < (l0_2.length : Int)
                  · rw [if_pos c15] at H
                    have c15b0 : decide ((ji13) < (l0_2.length : Int)) = true := decide_eq_true c15
                    clear c15
                    by_cases c16 : (rd l0_2 (ji13)) = 0
                    · rw [if_pos c16] at H
                      have c16b0 : ((rd l0_2 (ji13)) == 0) = true := beq_iff_eq.mpr c16
                      have c16b1 : ((rd l0_2 (ji13)) != 0) = false := bne_eq_false_iff_eq.mpr c16
                      clear c16
                      by_cases c17 : 0 ≤ x6_2
                      · rw [if_pos c17] at H
                        have c17b0 := eq_true c17
                        have c17b1 : decide (0 ≤ x6_2) = true := decide_eq_true c17
                        clear c17
                        obtain ⟨ji18, hji18⟩ : ∃ j_ : Int, (shl .i64 1 x6_2) = j_ := ⟨_, rfl⟩
                        replace H : (spec_ZeroMask.l0 k2 a1 (Go.bits .or .i64 x5_2 (ji18)) (wrap64 (x6_2 + 1)) a0_0 l0_1 l0_2) = some r := by first | (rw [hji18] at H; exact H) | (simp only [hji18] at H ⊢; exact H)
                        (try rw [hji18] at A10)
                        (try rw [hji18] at A11)
                        have hji18_ : (IntKind.i64.wrap (1 * 2 ^ min x6_2.toNat 64)) = ji18 := hji18
                        have hji18z : x6_2 ≤ 64 → (IntKind.i64.wrap (1 * 2 ^ x6_2.toNat)) = ji18 := shl_small hji18
                        have hji18u : (IntKind.i64.wrap (2 ^ min x6_2.toNat 64)) = ji18 := by have h_ := hji18_; rw [Int.one_mul] at h_; exact h_
                        have hji18v : x6_2 ≤ 64 → (IntKind.i64.wrap (2 ^ x6_2.toNat)) = ji18 := fun hle_ => by have h_ := hji18z hle_; rw [Int.one_mul] at h_; exact h_
                        have hji18y : (wrap64 (1 * 2 ^ min x6_2.toNat 64)) = ji18 := (i64_w _).symm.trans hji18_
                        have hji18x : x6_2 ≤ 64 → (wrap64 (1 * 2 ^ x6_2.toNat)) = ji18 := fun h_ => (i64_w _).symm.trans (hji18z h_)
                        have H' := Aside0.mk H
                        clear H
                        have hcz19_0 : wr.cell? ⟨gb11, 0, none⟩ = some (.int .i64 a0_0) := (blk_cell BK11.out 0).trans rfl
                        have hcz19_1 : wr.cell? ⟨gb11, 1, none⟩ = some (.slice A0_1 l0_1.length c0_1) := (blk_cell BK11.out 1).trans rfl
                        have hcz19_2 : wr.cell? ⟨gb11, 2, none⟩ = some (.slice A0_2 l0_2.length c0_2) := (blk_cell BK11.out 2).trans rfl
                        have hfz19_0 := blk_frozen BK11.out 0
                        have hfz19_1 := blk_frozen BK11.out 1
                        have hfz19_2 := blk_frozen BK11.out 2
                        go_wp2_with (first | ((with_reducible refine gate_callee (f := 176) rfl ?_); refine goesL_ (some 21) rfl rfl Tryz.func176 (by kernel_rfl) rfl #[.agg #[.int .i64 a0_0, .slice A0_1 l0_1.length c0_1, .slice A0_2 l0_2.length c0_2]] rfl (by (try simp only [List.map_toArray, List.map_cons, List.map_nil]); first | done | rfl | (simp only [List.length_drop, List.length_take]; rfl)) ?_; (with_reducible refine (spec_ActiveMask.calls a0_0 _ _ l0_1 _ _ l0_2 t13 _ ?side1 ?side2 ?side3 ?side4 A10.out).mono ?_); (case side1 => repeat (first | exact (Kd.C_below HR0_1.out HB.out) | (with_reducible refine Kd.C_alloc ?_ _) | (with_reducible refine Kd.C_drewN ?_ _) | (with_reducible refine Kd.C_drew ?_))); (case side2 => exact HC0_1.out); (case side3 => repeat (first | exact (Kd.C_below HR0_2.out HB.out) | (with_reducible refine Kd.C_alloc ?_ _) | (with_reducible refine Kd.C_drewN ?_ _) | (with_reducible refine Kd.C_drew ?_))); (case side4 => exact HC0_2.out); rintro e w20 ⟨rfl, hb⟩; refine ⟨_, rfl, ?_⟩; have n0_ := Aside0.mk (blk_below (g := gb11) (o := .cells #[.int .i64 a0_0, .slice A0_1 l0_1.length c0_1, .slice A0_2 l0_2.length c0_2] 59 (0, 0)) (by (with_reducible repeat (first | refine blk_drewN ?_ _ | refine blk_drew ?_ | refine blk_alloc ?_ _)); exact BK11.out) hb); have n1_ := Aside0.mk (below_step (by repeat (first | (with_reducible first | exact HB.out | apply below_alloc | apply pw_below_drewN | apply below_drew1 | refine below_set ?_ GE11.out) | exact HB.out)) hb); clear BK11; clear HB; have BK11 := n0_; have HB := n1_; clear n0_ n1_; (try clear hb); (try clear hb2); (try clear hk); (try clear hi)) | ((with_reducible refine gate_callee (f := 177) rfl ?_); refine goesL_ (some 23) rfl rfl Tryz.func177 (by kernel_rfl) rfl #[.int .i64 t13, .int .i64 x6_2] rfl (by (try simp only [List.map_toArray, List.map_cons, List.map_nil]); first | done | rfl | (simp only [List.length_drop, List.length_take]; rfl)) ?_; (with_reducible refine (spec_HasLane.calls t13 x6_2 true _ A11.out).mono ?_); rintro e w' ⟨rfl, ⟨nd, rfl⟩⟩; refine ⟨_, rfl, ?_⟩; have hcz21_0 : w20.cell? ⟨gb11, 0, none⟩ = some (.int .i64 a0_0) := (blk_cell BK11.out 0).trans rfl; have hcz21_1 : w20.cell? ⟨gb11, 1, none⟩ = some (.slice A0_1 l0_1.length c0_1) := (blk_cell BK11.out 1).trans rfl; have hcz21_2 : w20.cell? ⟨gb11, 2, none⟩ = some (.slice A0_2 l0_2.length c0_2) := (blk_cell BK11.out 2).trans rfl; have hfz21_0 := blk_frozen BK11.out 0; have hfz21_1 := blk_frozen BK11.out 1; have hfz21_2 := blk_frozen BK11.out 2; have p15 : 0 ≤ ((ji13) : Int) := of_decide_eq_true (by first | (with_reducible assumption) | assumption); have q15 : (ji13) < (l0_2.length : Int) := of_decide_eq_true (by first | (with_reducible assumption) | assumption); obtain ⟨ad15, e15, hx15_0⟩ := Kd.at_int HR0_2.out (ji13) p15 q15; cases e15; replace hx15_0 := (HB.out.cell (World.block_lt_of_cell? w _ hx15_0)).trans hx15_0; replace p15 := eq_true p15; replace q15 := eq_true q15))
                        go_roundg k2
                        case measure => have := HJ2.out; have := HK2.out; omega
                        case rel => exact ⟨(Go.bits .or .i64 x5_2 (ji18)), (wrap64 (x6_2 + 1)), (by first | rfl | (simp; done) | (simp only [← hji18] <;> (first | rfl | simp)) | (simp [*]; done)), (by first | rfl | (simp; done) | (simp [*]; done)), H', ⟨by have := HJ2.out; have := HK2.out; omega⟩, ⟨by (with_reducible repeat (first | refine blk_drewN ?_ _ | refine blk_drew ?_ | refine blk_alloc ?_ _)); exact BK11.out⟩, ⟨by repeat (first | (with_reducible first | exact HB.out | apply below_alloc | apply pw_below_drewN | apply below_drew1 | refine below_set ?_ GE11.out) | exact HB.out)⟩⟩
                      · rw [if_neg c17] at H
                        exact absurd H (by simp)
                    · rw [if_neg c16] at H
                      have c16b0 : ((rd l0_2 (ji13)) == 0) = false := beq_eq_false_iff_ne.mpr c16
                      have c16b1 : ((rd l0_2 (ji13)) != 0) = true := bne_iff_ne.mpr c16
                      have H' := Aside0.mk H
                      clear H
                      have hcz22_0 : wr.cell? ⟨gb11, 0, none⟩ = some (.int .i64 a0_0) := (blk_cell BK11.out 0).trans rfl
                      have hcz22_1 : wr.cell? ⟨gb11, 1, none⟩ = some (.slice A0_1 l0_1.length c0_1) := (blk_cell BK11.out 1).trans rfl
                      have hcz22_2 : wr.cell? ⟨gb11, 2, none⟩ = some (.slice A0_2 l0_2.length c0_2) := (blk_cell BK11.out 2).trans rfl
                      have hfz22_0 := blk_frozen BK11.out 0
                      have hfz22_1 := blk_frozen BK11.out 1
                      have hfz22_2 := blk_frozen BK11.out 2
                      go_wp2_with (first | ((with_reducible refine gate_callee (f := 176) rfl ?_); refine goesL_ (some 21) rfl rfl Tryz.func176 (by kernel_rfl) rfl #[.agg #[.int .i64 a0_0, .slice A0_1 l0_1.length c0_1, .slice A0_2 l0_2.length c0_2]] rfl (by (try simp only [List.map_toArray, List.map_cons, List.map_nil]); first | done | rfl | (simp only [List.length_drop, List.length_take]; rfl)) ?_; (with_reducible refine (spec_ActiveMask.calls a0_0 _ _ l0_1 _ _ l0_2 t13 _ ?side1 ?side2 ?side3 ?side4 A10.out).mono ?_); (case side1 => repeat (first | exact (Kd.C_below HR0_1.out HB.out) | (with_reducible refine Kd.C_alloc ?_ _) | (with_reducible refine Kd.C_drewN ?_ _) | (with_reducible refine Kd.C_drew ?_))); (case side2 => exact HC0_1.out); (case side3 => repeat (first | exact (Kd.C_below HR0_2.out HB.out) | (with_reducible refine Kd.C_alloc ?_ _) | (with_reducible refine Kd.C_drewN ?_ _) | (with_reducible refine Kd.C_drew ?_))); (case side4 => exact HC0_2.out); rintro e w23 ⟨rfl, hb⟩; refine ⟨_, rfl, ?_⟩; have n0_ := Aside0.mk (blk_below (g := gb11) (o := .cells #[.int .i64 a0_0, .slice A0_1 l0_1.length c0_1, .slice A0_2 l0_2.length c0_2] 59 (0, 0)) (by (with_reducible repeat (first | refine blk_drewN ?_ _ | refine blk_drew ?_ | refine blk_alloc ?_ _)); exact BK11.out) hb); have n1_ := Aside0.mk (below_step (by repeat (first | (with_reducible first | exact HB.out | apply below_alloc | apply pw_below_drewN | apply below_drew1 | refine below_set ?_ GE11.out) | exact HB.out)) hb); clear BK11; clear HB; have BK11 := n0_; have HB := n1_; clear n0_ n1_; (try clear hb); (try clear hb2); (try clear hk); (try clear hi)) | ((with_reducible refine gate_callee (f := 177) rfl ?_); refine goesL_ (some 23) rfl rfl Tryz.func177 (by kernel_rfl) rfl #[.int .i64 t13, .int .i64 x6_2] rfl (by (try simp only [List.map_toArray, List.map_cons, List.map_nil]); first | done | rfl | (simp only [List.length_drop, List.length_take]; rfl)) ?_; (with_reducible refine (spec_HasLane.calls t13 x6_2 true _ A11.out).mono ?_); rintro e w' ⟨rfl, ⟨nd, rfl⟩⟩; refine ⟨_, rfl, ?_⟩; have hcz24_0 : w23.cell? ⟨gb11, 0, none⟩ = some (.int .i64 a0_0) := (blk_cell BK11.out 0).trans rfl; have hcz24_1 : w23.cell? ⟨gb11, 1, none⟩ = some (.slice A0_1 l0_1.length c0_1) := (blk_cell BK11.out 1).trans rfl; have hcz24_2 : w23.cell? ⟨gb11, 2, none⟩ = some (.slice A0_2 l0_2.length c0_2) := (blk_cell BK11.out 2).trans rfl; have hfz24_0 := blk_frozen BK11.out 0; have hfz24_1 := blk_frozen BK11.out 1; have hfz24_2 := blk_frozen BK11.out 2; have p15 : 0 ≤ ((ji13) : Int) := of_decide_eq_true (by first | (with_reducible assumption) | assumption); have q15 : (ji13) < (l0_2.length : Int) := of_decide_eq_true (by first | (with_reducible assumption) | assumption); obtain ⟨ad15, e15, hx15_0⟩ := Kd.at_int HR0_2.out (ji13) p15 q15; cases e15; replace hx15_0 := (HB.out.cell (World.block_lt_of_cell? w _ hx15_0)).trans hx15_0; replace p15 := eq_true p15; replace q15 := eq_true q15))
                      go_roundg k2
                      case measure => have := HJ2.out; have := HK2.out; omega
                      case rel => exact ⟨(x5_2), (wrap64 (x6_2 + 1)), (by first | rfl | (simp; done) | (simp [*]; done)), (by first | rfl | (simp; done) | (simp [*]; done)), H', ⟨by have := HJ2.out; have := HK2.out; omega⟩, ⟨by (with_reducible repeat (first | refine blk_drewN ?_ _ | refine blk_drew ?_ | refine blk_alloc ?_ _)); exact BK11.out⟩, ⟨by repeat (first | (with_reducible first | exact HB.out | apply below_alloc | apply pw_below_drewN | apply below_drew1 | refine below_set ?_ GE11.out) | exact HB.out)⟩⟩
                  · rw [if_neg c15] at H
                    exact absurd H (by simp)
                · rw [if_neg c14] at H
                  exact absurd H (by simp)
              · replace c12 := Bool.eq_false_iff.mpr c12
                subst c12
                have H1 : (spec_ZeroMask.l0 k2 a1 x5_2 (wrap64 (x6_2 + 1)) a0_0 l0_1 l0_2) = some r := by rw [if_neg (show ¬ (false = true) by decide)] at H; exact H
                clear H
                have H := H1
                clear H1
                have H' := Aside0.mk H
                clear H
                have hcz25_0 : wr.cell? ⟨gb11, 0, none⟩ = some (.int .i64 a0_0) := (blk_cell BK11.out 0).trans rfl
                have hcz25_1 : wr.cell? ⟨gb11, 1, none⟩ = some (.slice A0_1 l0_1.length c0_1) := (blk_cell BK11.out 1).trans rfl
                have hcz25_2 : wr.cell? ⟨gb11, 2, none⟩ = some (.slice A0_2 l0_2.length c0_2) := (blk_cell BK11.out 2).trans rfl
                have hfz25_0 := blk_frozen BK11.out 0
                have hfz25_1 := blk_frozen BK11.out 1
                have hfz25_2 := blk_frozen BK11.out 2
                go_wp2_with (first | ((with_reducible refine gate_callee (f := 176) rfl ?_); refine goesL_ (some 21) rfl rfl Tryz.func176 (by kernel_rfl) rfl #[.agg #[.int .i64 a0_0, .slice A0_1 l0_1.length c0_1, .slice A0_2 l0_2.length c0_2]] rfl (by (try simp only [List.map_toArray, List.map_cons, List.map_nil]); first | done | rfl | (simp only [List.length_drop, List.length_take]; rfl)) ?_; (with_reducible refine (spec_ActiveMask.calls a0_0 _ _ l0_1 _ _ l0_2 t13 _ ?side1 ?side2 ?side3 ?side4 A10.out).mono ?_); (case side1 => repeat (first | exact (Kd.C_below HR0_1.out HB.out) | (with_reducible refine Kd.C_alloc ?_ _) | (with_reducible refine Kd.C_drewN ?_ _) | (with_reducible refine Kd.C_drew ?_))); (case side2 => exact HC0_1.out); (case side3 => repeat (first | exact (Kd.C_below HR0_2.out HB.out) | (with_reducible refine Kd.C_alloc ?_ _) | (with_reducible refine Kd.C_drewN ?_ _) | (with_reducible refine Kd.C_drew ?_))); (case side4 => exact HC0_2.out); rintro e w26 ⟨rfl, hb⟩; refine ⟨_, rfl, ?_⟩; have n0_ := Aside0.mk (blk_below (g := gb11) (o := .cells #[.int .i64 a0_0, .slice A0_1 l0_1.length c0_1, .slice A0_2 l0_2.length c0_2] 59 (0, 0)) (by (with_reducible repeat (first | refine blk_drewN ?_ _ | refine blk_drew ?_ | refine blk_alloc ?_ _)); exact BK11.out) hb); have n1_ := Aside0.mk (below_step (by repeat (first | (with_reducible first | exact HB.out | apply below_alloc | apply pw_below_drewN | apply below_drew1 | refine below_set ?_ GE11.out) | exact HB.out)) hb); clear BK11; clear HB; have BK11 := n0_; have HB := n1_; clear n0_ n1_; (try clear hb); (try clear hb2); (try clear hk); (try clear hi)) | ((with_reducible refine gate_callee (f := 177) rfl ?_); refine goesL_ (some 23) rfl rfl Tryz.func177 (by kernel_rfl) rfl #[.int .i64 t13, .int .i64 x6_2] rfl (by (try simp only [List.map_toArray, List.map_cons, List.map_nil]); first | done | rfl | (simp only [List.length_drop, List.length_take]; rfl)) ?_; (with_reducible refine (spec_HasLane.calls t13 x6_2 false _ A11.out).mono ?_); rintro e w' ⟨rfl, ⟨nd, rfl⟩⟩; refine ⟨_, rfl, ?_⟩))
                go_roundg k2
                case measure => have := HJ2.out; have := HK2.out; omega
                case rel => exact ⟨(x5_2), (wrap64 (x6_2 + 1)), (by first | rfl | (simp; done) | (simp [*]; done)), (by first | rfl | (simp; done) | (simp [*]; done)), H', ⟨by have := HJ2.out; have := HK2.out; omega⟩, ⟨by (with_reducible repeat (first | refine blk_drewN ?_ _ | refine blk_drew ?_ | refine blk_alloc ?_ _)); exact BK11.out⟩, ⟨by repeat (first | (with_reducible first | exact HB.out | apply below_alloc | apply pw_below_drewN | apply below_drew1 | refine below_set ?_ GE11.out) | exact HB.out)⟩⟩
            · rw [if_neg c9] at H
              have c9b0 : decide (x6_2 < 8) = false := decide_eq_false c9
              clear c9
              obtain rfl := Option.some.inj H
              go_wp2
              go_ret
              exact ⟨by first | rfl | (simp [errW_none, errW_some] <;> rfl) | (simp [*, errW_none, errW_some] <;> rfl), by repeat (first | (with_reducible first | exact HB.out | apply below_alloc | apply pw_below_drewN | apply below_drew1 | refine below_set ?_ GE11.out) | exact HB.out)⟩

/-! ### spec_l13Splits: function 138 -/
def spec_l13Splits.f (k : Nat) (l0 : List (S95)) (a1_0 : Int) (l1_1 : List (S132)) (l1_2 : List Int) : Option (Bool) := if 0 ≤ (wrap64 ((l1_1.length : Int) - 1)) then (if (wrap64 ((l1_1.length : Int) - 1)) < (l1_1.length : Int) then (if 0 ≤ ((rd_T132 l1_1 (wrap64 ((l1_1.length : Int) - 1))).f0) then (if ((rd_T132 l1_1 (wrap64 ((l1_1.length : Int) - 1))).f0) < (l0.length : Int) then (if ((rd_T95 l0 ((rd_T132 l1_1 (wrap64 ((l1_1.length : Int) - 1))).f0)).f0) = 10 then (if ((rd_T95 l0 ((rd_T132 l1_1 (wrap64 ((l1_1.length : Int) - 1))).f0)).f2) = (wrap64 (((rd_T132 l1_1 (wrap64 ((l1_1.length : Int) - 1))).f0) + 1)) then (some false) else ((spec_ZeroMask.f k a1_0 l1_1 l1_2 ((rd_T95 l0 ((rd_T132 l1_1 (wrap64 ((l1_1.length : Int) - 1))).f0)).f1)).bind fun t17 => (if t17 = 0 then (some false) else (some (t17 != ((rd_T132 l1_1 (wrap64 ((l1_1.length : Int) - 1))).f2)))))) else (some false)) else (none)) else (none)) else (none)) else (none)
def spec_l13Splits.T2 : Bool × List (List Nat × List Nat) := (true, [([], []), ([], []), ([1], [1]), ([0, 2], [0, 2]), ([3], [3]), ([4], [4]), ([5], [5]), ([6], [6]), ([7], [7]), ([7], [7]), ([9, 7], [7, 9]), ([8, 10, 7], [7, 8, 10]), ([11, 7], [7, 11]), ([12, 7], [7, 12]), ([7], [7]), ([14, 7], [7, 14]), ([15, 7], [7, 15]), ([13, 16, 7], [7, 13, 16]), ([7, 17], [7, 17])])
def spec_l13Splits.B2 : List Nat := [0, 0, 2, 7, 15, 31, 63, 127, 255, 255, 767, 2047, 4095, 8191, 255, 16639, 49407, 131071, 262143]
theorem spec_l13Splits.tab2 : rtab .any (opsOf Tryz.f138 2) = spec_l13Splits.T2 := by kernel_rfl
theorem spec_l13Splits.bits2 : waitsOk spec_l13Splits.T2.2 spec_l13Splits.B2 = true := by kernel_rfl
def spec_l13Splits.T4 : Bool × List (List Nat × List Nat) := (true, [([], []), ([], []), ([], []), ([2], [2]), ([1, 3], [1, 3]), ([4], [4]), ([5], [5]), ([0, 6], [0, 6]), ([7, 7, 0, 1, 2, 3, 4, 5, 6, 7], [7])])
def spec_l13Splits.B4 : List Nat := [0, 0, 0, 4, 14, 30, 62, 127, 255]
theorem spec_l13Splits.tab4 : rtab .any (opsOf Tryz.f138 4) = spec_l13Splits.T4 := by kernel_rfl
theorem spec_l13Splits.bits4 : waitsOk spec_l13Splits.T4.2 spec_l13Splits.B4 = true := by kernel_rfl
set_option maxHeartbeats 8000000 in
set_option maxRecDepth 100000 in
theorem spec_l13Splits.calls (k : Nat) (A0 : Option Addr) (c0 : Nat) (l0 : List (S95)) (a1_0 : Int) (A1_1 : Option Addr) (c1_1 : Nat) (l1_1 : List (S132)) (A1_2 : Option Addr) (c1_2 : Nat) (l1_2 : List Int) (r : Bool) (w : World) (hr0 : Kd.C k95 w A0 l0.length l0) (hc0 : l0.length ≤ c0) (hr1_1 : Kd.C k132 w A1_1 l1_1.length l1_1) (hc1_1 : l1_1.length ≤ c1_1) (hr1_2 : Kd.C (Kd.int .i64) w A1_2 l1_2.length l1_2) (hc1_2 : l1_2.length ≤ c1_2) (h : spec_l13Splits.f k l0 a1_0 l1_1 l1_2 = some r) :
  Calls Tryz.prog 138 #[.slice A0 l0.length c0, .agg #[.int .i64 a1_0, .slice A1_1 l1_1.length c1_1, .slice A1_2 l1_2.length c1_2]] w fun e w' => e = .returned (.bool r) ∧ Below w.heap.size w w' := by
 have hu59 := Tryz.underlying59; have hu132 := Tryz.underlying132; have HR0 := Aside0.mk hr0; have HC0 := Aside0.mk hc0; clear hr0 hc0; have HR1_1 := Aside0.mk hr1_1; have HC1_1 := Aside0.mk hc1_1; clear hr1_1 hc1_1; have HR1_2 := Aside0.mk hr1_2; have HC1_2 := Aside0.mk hc1_2; clear hr1_2 hc1_2; have HB := Aside0.mk (Below.refl w.heap.size w)
 have H : (if 0 ≤ (wrap64 ((l1_1.length : Int) - 1)) then (if (wrap64 ((l1_1.length : Int) - 1)) < (l1_1.length : Int) then (if 0 ≤ ((rd_T132 l1_1 (wrap64 ((l1_1.length : Int) - 1))).f0) then (if ((rd_T132 l1_1 (wrap64 ((l1_1.length : Int) - 1))).f0) < (l0.length : Int) then (if ((rd_T95 l0 ((rd_T132 l1_1 (wrap64 ((l1_1.length : Int) - 1))).f0)).f0) = 10 then (if ((rd_T95 l0 ((rd_T132 l1_1 (wrap64 ((l1_1.length : Int) - 1))).f0)).f2) = (wrap64 (((rd_T132 l1_1 (wrap64 ((l1_1.length : Int) - 1))).f0) + 1)) then (some false) else ((spec_ZeroMask.f k a1_0 l1_1 l1_2 ((rd_T95 l0 ((rd_T132 l1_1 (wrap64 ((l1_1.length : Int) - 1))).f0)).f1)).bind fun t17 => (if t17 = 0 then (some false) else (some (t17 != ((rd_T132 l1_1 (wrap64 ((l1_1.length : Int) - 1))).f2)))))) else (some false)) else (none)) else (none)) else (none)) else (none)) = some r := h
 clear h
 obtain ⟨ji3, hji3⟩ : ∃ j_ : Int, (wrap64 ((l1_1.length : Int) - 1)) = j_ := ⟨_, rfl⟩
 (first | rw [hji3] at H | simp only [hji3] at H)
 have hji3w : (IntKind.i64.wrap ((l1_1.length : Int) - 1)) = ji3 := (i64_w _).trans hji3
 obtain ⟨c4, H⟩ := ifS H
 have c4b0 := decide_eq_true c4
 clear c4
 obtain ⟨c5, H⟩ := ifS H
 have c5b0 := decide_eq_true c5
 clear c5
 obtain ⟨c6, H⟩ := ifS H
 have c6b0 := decide_eq_true c6
 clear c6
 obtain ⟨c7, H⟩ := ifS H
 have c7b0 := decide_eq_true c7
 clear c7
 by_cases c8 : ((rd_T95 l0 ((rd_T132 l1_1 (ji3)).f0)).f0) = 10
 ·rw [if_pos c8] at H
  have c8b0 : (((rd_T95 l0 ((rd_T132 l1_1 (ji3)).f0)).f0) == 10) = true := beq_iff_eq.mpr c8
  have c8b1 : (((rd_T95 l0 ((rd_T132 l1_1 (ji3)).f0)).f0) != 10) = false := bne_eq_false_iff_eq.mpr c8
  clear c8
  by_cases c9 : ((rd_T95 l0 ((rd_T132 l1_1 (ji3)).f0)).f2) = (wrap64 (((rd_T132 l1_1 (ji3)).f0) + 1))
  ·rw [if_pos c9] at H
   have c9b0 : (((rd_T95 l0 ((rd_T132 l1_1 (ji3)).f0)).f2) == (wrap64 (((rd_T132 l1_1 (ji3)).f0) + 1))) = true := beq_iff_eq.mpr c9
   have c9b1 : (((rd_T95 l0 ((rd_T132 l1_1 (ji3)).f0)).f2) != (wrap64 (((rd_T132 l1_1 (ji3)).f0) + 1))) = false := bne_eq_false_iff_eq.mpr c9
   clear c9; obtain rfl := oI H
   go_enter Tryz.func138, Tryz.ntmps138
   try go_wp2_with (first | (refine bxe 3 #[.int .i64 a1_0, .slice A1_1 l1_1.length c1_1, .slice A1_2 l1_2.length c1_2] 59 ?_; intro gb11 hg w10 hbox hb; have BK11 := Aside0.mk (hbox); have GW11 := Aside0.mk (gwe hg : w.heap.size ≤ _); have GE11 := GW11; replace HB := hbs hb; clear hb hbox hg; obtain ⟨_, _, _, _, _, _⟩ := box3 BK11; have p12 : 0 ≤ ((ji3) : Int) := pq0; have q12 : (ji3) < (l1_1.length : Int) := pq0; obtain ⟨ad12, e12, hx12_0, hx12_1, hx12_2⟩ := at_T132 HR1_1.out (ji3) p12 q12; cases e12; replace hx12_0 := hxb hx12_0; replace hx12_1 := hxb hx12_1; replace hx12_2 := hxb hx12_2; replace p12 := eq_true p12; replace q12 := eq_true q12) | (refine bxe 5 #[.int .i64 0, .int .i64 0, .int .i64 0] 132 ?_; intro gb13 hg w12 hbox hb; have BK13 := Aside0.mk (hbox); have GW13 := Aside0.mk (gwe hg : w.heap.size ≤ _); have GE13 := GW13; have NB11_13 := Aside0.mk (nbl hg BK11); have NB13_11 := Aside0.mk (nbg hg BK11); replace BK11 := kb BK11 hb; replace HB := hbs hb; clear hb hbox hg; have hnb13 := NB13_11.out; have hnc13 := NB11_13.out; obtain ⟨_, _, _, _, _, _⟩ := box3 BK13))
   have n0_ : Aside0 ((((w12.setCell ⟨gb13, 0, none⟩ (.int .i64 ((rd_T132 l1_1 (ji3)).f0))).setCell ⟨gb13, 1, none⟩ (.int .i64 ((rd_T132 l1_1 (ji3)).f1))).setCell ⟨gb13, 2, none⟩ (.int .i64 ((rd_T132 l1_1 (ji3)).f2))).heap[gb11]? = some (.cells #[.int .i64 a1_0, .slice (some ad12) l1_1.length c1_1, .slice A1_2 l1_2.length c1_2] 59 (0, 0))) := ⟨bk⟩
   have n1_ : Aside0 ((((w12.setCell ⟨gb13, 0, none⟩ (.int .i64 ((rd_T132 l1_1 (ji3)).f0))).setCell ⟨gb13, 1, none⟩ (.int .i64 ((rd_T132 l1_1 (ji3)).f1))).setCell ⟨gb13, 2, none⟩ (.int .i64 ((rd_T132 l1_1 (ji3)).f2))).heap[gb13]? = some (.cells #[.int .i64 ((rd_T132 l1_1 (ji3)).f0), .int .i64 ((rd_T132 l1_1 (ji3)).f1), .int .i64 ((rd_T132 l1_1 (ji3)).f2)] 132 (0, 0))) := ⟨bkp⟩
   have n2_ : Aside0 (Below w.heap.size w (((w12.setCell ⟨gb13, 0, none⟩ (.int .i64 ((rd_T132 l1_1 (ji3)).f0))).setCell ⟨gb13, 1, none⟩ (.int .i64 ((rd_T132 l1_1 (ji3)).f1))).setCell ⟨gb13, 2, none⟩ (.int .i64 ((rd_T132 l1_1 (ji3)).f2)))) := ⟨bels⟩
   (try clear BK11); (try clear BK13); (try clear HB); generalize (((w12.setCell ⟨gb13, 0, none⟩ (.int .i64 ((rd_T132 l1_1 (ji3)).f0))).setCell ⟨gb13, 1, none⟩ (.int .i64 ((rd_T132 l1_1 (ji3)).f1))).setCell ⟨gb13, 2, none⟩ (.int .i64 ((rd_T132 l1_1 (ji3)).f2))) = w15 at n0_ n1_ n2_ ⊢; have BK11 := n0_; have BK13 := n1_; have HB := n2_; clear n0_ n1_ n2_; replace BK11 := Aside0.mk (blk_drew BK11.out); replace BK13 := Aside0.mk (blk_drew BK13.out); replace HB := Aside0.mk (below_drew1 HB.out)
   have p14 : 0 ≤ (((rd_T132 l1_1 (ji3)).f0) : Int) := pq0
   have q14 : ((rd_T132 l1_1 (ji3)).f0) < (l0.length : Int) := pq0
   obtain ⟨ad14, e14, hx14_0, hx14_1, hx14_2, hx14_3⟩ := at_T95 HR0.out ((rd_T132 l1_1 (ji3)).f0) p14 q14; have hw14_3 := hx14_3; have hw14_2 := hx14_2; have hw14_1 := hx14_1; have hw14_0 := hx14_0
   cases e14
   replace hx14_0 := hxb hx14_0; replace hx14_1 := hxb hx14_1; replace hx14_2 := hxb hx14_2; replace hx14_3 := hxb hx14_3; replace p14 := eq_true p14; replace q14 := eq_true q14
   have p15 : 0 ≤ (((rd_T132 l1_1 (ji3)).f0) : Int) := pq0
   have q15 : ((rd_T132 l1_1 (ji3)).f0) < (l0.length : Int) := pq0
   obtain ⟨ad15, e15, hx15_0, hx15_1, hx15_2, hx15_3⟩ := at_T95 HR0.out ((rd_T132 l1_1 (ji3)).f0) p15 q15; have hw15_3 := hx15_3; have hw15_2 := hx15_2; have hw15_1 := hx15_1; have hw15_0 := hx15_0
   obtain rfl : ad14 = ad15 := (by injection e15)
   replace hx15_0 := hxb hx15_0; replace hx15_1 := hxb hx15_1; replace hx15_2 := hxb hx15_2; replace hx15_3 := hxb hx15_3; replace p15 := eq_true p15; replace q15 := eq_true q15
   refine start_ (n := 19) (S := fun w' => w'.cell? ⟨gb13, 0, none⟩ = some (.int .i64 ((rd_T132 l1_1 (ji3)).f0)) ∧ w'.cell? ⟨gb13, 1, none⟩ = some (.int .i64 ((rd_T132 l1_1 (ji3)).f1)) ∧ w'.cell? ⟨gb13, 2, none⟩ = some (.int .i64 ((rd_T132 l1_1 (ji3)).f2)) ∧ w'.cell? (ad14.add ((((rd_T132 l1_1 (ji3)).f0)).toNat * 4)) = some (.int .i64 ((rd_T95 l0 ((rd_T132 l1_1 (ji3)).f0)).f0)) ∧ w'.cell? ⟨(ad14.add ((((rd_T132 l1_1 (ji3)).f0)).toNat * 4)).block, (ad14.add ((((rd_T132 l1_1 (ji3)).f0)).toNat * 4)).off + 1, none⟩ = some (.int .i64 ((rd_T95 l0 ((rd_T132 l1_1 (ji3)).f0)).f1)) ∧ w'.cell? ⟨(ad14.add ((((rd_T132 l1_1 (ji3)).f0)).toNat * 4)).block, (ad14.add ((((rd_T132 l1_1 (ji3)).f0)).toNat * 4)).off + 2, none⟩ = some (.int .i64 ((rd_T95 l0 ((rd_T132 l1_1 (ji3)).f0)).f2)) ∧ w'.cell? ⟨(ad14.add ((((rd_T132 l1_1 (ji3)).f0)).toNat * 4)).block, (ad14.add ((((rd_T132 l1_1 (ji3)).f0)).toNat * 4)).off + 3, none⟩ = some (.int .i64 ((rd_T95 l0 ((rd_T132 l1_1 (ji3)).f0)).f3)) ∧ w'.cell? (ad14.add ((((rd_T132 l1_1 (ji3)).f0)).toNat * 4)) = some (.int .i64 ((rd_T95 l0 ((rd_T132 l1_1 (ji3)).f0)).f0)) ∧ w'.cell? ⟨(ad14.add ((((rd_T132 l1_1 (ji3)).f0)).toNat * 4)).block, (ad14.add ((((rd_T132 l1_1 (ji3)).f0)).toNat * 4)).off + 1, none⟩ = some (.int .i64 ((rd_T95 l0 ((rd_T132 l1_1 (ji3)).f0)).f1)) ∧ w'.cell? ⟨(ad14.add ((((rd_T132 l1_1 (ji3)).f0)).toNat * 4)).block, (ad14.add ((((rd_T132 l1_1 (ji3)).f0)).toNat * 4)).off + 2, none⟩ = some (.int .i64 ((rd_T95 l0 ((rd_T132 l1_1 (ji3)).f0)).f2)) ∧ w'.cell? ⟨(ad14.add ((((rd_T132 l1_1 (ji3)).f0)).toNat * 4)).block, (ad14.add ((((rd_T132 l1_1 (ji3)).f0)).toNat * 4)).off + 3, none⟩ = some (.int .i64 ((rd_T95 l0 ((rd_T132 l1_1 (ji3)).f0)).f3))) (ds := []) _ (by kernel_rfl) rfl rfl ⟨bz BK13 0, bz BK13 1, bz BK13 2, (hxb hw14_0), (hxb hw14_1), (hxb hw14_2), (hxb hw14_3), (hxb hw15_0), (hxb hw15_1), (hxb hw15_2), (hxb hw15_3)⟩ (fun hHeld => ?_); refine with_tabW spec_l13Splits.tab2 spec_l13Splits.bits2 (fun HT_ HW_ => ?_)
   generalize w15.drew = w16 at BK11 BK13 HB hx14_0 hx14_1 hx14_2 hx14_3 hx15_0 hx15_1 hx15_2 hx15_3 hHeld ⊢; refine wp 0 2 ?_; refine tm11 2 17 ?_; refine wp 3 5 ?_; refine tm11 5 20 ?_; refine pm 6 21 ?_; refine pm 7 22 ?_; refine pm 8 23 ?_; refine pm 9 24 ?_; refine pm 14 29 ?_; refine tm11 10 25 ?_; refine wp 11 13 ?_; refine tm11 13 28 ?_; refine tm11 15 30 ?_; refine wp 16 19 ?_
   refine done_ (done_of HT_.out (by kernel_rfl)) ?_
   try go_wp2
   go_ret
   exact ⟨by first | rfl | (simp [errW_none, errW_some] <;> rfl) | (simp only [← hji3]; first | rfl | (simp [errW_none, errW_some] <;> rfl)) | (simp [*, errW_none, errW_some] <;> rfl), bels⟩
  ·rw [if_neg c9] at H
   have c9b0 : (((rd_T95 l0 ((rd_T132 l1_1 (ji3)).f0)).f2) == (wrap64 (((rd_T132 l1_1 (ji3)).f0) + 1))) = false := beq_eq_false_iff_ne.mpr c9
   have c9b1 : (((rd_T95 l0 ((rd_T132 l1_1 (ji3)).f0)).f2) != (wrap64 (((rd_T132 l1_1 (ji3)).f0) + 1))) = true := bne_iff_ne.mpr c9
   obtain ⟨t17, A17, H⟩ := bnd H; (try dsimp only at H)
   by_cases c18 : t17 = 0
   ·rw [if_pos c18] at H
    have c18b0 : (t17 == 0) = true := beq_iff_eq.mpr c18
    have c18b1 : (t17 != 0) = false := bne_eq_false_iff_eq.mpr c18
    clear c18; obtain rfl := oI H
    go_enter Tryz.func138, Tryz.ntmps138
    try go_wp2_with (first | (refine bxe 3 #[.int .i64 a1_0, .slice A1_1 l1_1.length c1_1, .slice A1_2 l1_2.length c1_2] 59 ?_; intro gb11 hg w19 hbox hb; have BK11 := Aside0.mk (hbox); have GW11 := Aside0.mk (gwe hg : w.heap.size ≤ _); have GE11 := GW11; replace HB := hbs hb; clear hb hbox hg; obtain ⟨_, _, _, _, _, _⟩ := box3 BK11; have p12 : 0 ≤ ((ji3) : Int) := pq0; have q12 : (ji3) < (l1_1.length : Int) := pq0; obtain ⟨ad12, e12, hx12_0, hx12_1, hx12_2⟩ := at_T132 HR1_1.out (ji3) p12 q12; cases e12; replace hx12_0 := hxb hx12_0; replace hx12_1 := hxb hx12_1; replace hx12_2 := hxb hx12_2; replace p12 := eq_true p12; replace q12 := eq_true q12) | (refine bxe 5 #[.int .i64 0, .int .i64 0, .int .i64 0] 132 ?_; intro gb13 hg w21 hbox hb; have BK13 := Aside0.mk (hbox); have GW13 := Aside0.mk (gwe hg : w.heap.size ≤ _); have GE13 := GW13; have NB11_13 := Aside0.mk (nbl hg BK11); have NB13_11 := Aside0.mk (nbg hg BK11); replace BK11 := kb BK11 hb; replace HB := hbs hb; clear hb hbox hg; have hnb22 := NB13_11.out; have hnc22 := NB11_13.out; obtain ⟨_, _, _, _, _, _⟩ := box3 BK13))
    have n0_ : Aside0 ((((w21.setCell ⟨gb13, 0, none⟩ (.int .i64 ((rd_T132 l1_1 (ji3)).f0))).setCell ⟨gb13, 1, none⟩ (.int .i64 ((rd_T132 l1_1 (ji3)).f1))).setCell ⟨gb13, 2, none⟩ (.int .i64 ((rd_T132 l1_1 (ji3)).f2))).heap[gb11]? = some (.cells #[.int .i64 a1_0, .slice (some ad12) l1_1.length c1_1, .slice A1_2 l1_2.length c1_2] 59 (0, 0))) := ⟨bk⟩
    have n1_ : Aside0 ((((w21.setCell ⟨gb13, 0, none⟩ (.int .i64 ((rd_T132 l1_1 (ji3)).f0))).setCell ⟨gb13, 1, none⟩ (.int .i64 ((rd_T132 l1_1 (ji3)).f1))).setCell ⟨gb13, 2, none⟩ (.int .i64 ((rd_T132 l1_1 (ji3)).f2))).heap[gb13]? = some (.cells #[.int .i64 ((rd_T132 l1_1 (ji3)).f0), .int .i64 ((rd_T132 l1_1 (ji3)).f1), .int .i64 ((rd_T132 l1_1 (ji3)).f2)] 132 (0, 0))) := ⟨bkp⟩
    have n2_ : Aside0 (Below w.heap.size w (((w21.setCell ⟨gb13, 0, none⟩ (.int .i64 ((rd_T132 l1_1 (ji3)).f0))).setCell ⟨gb13, 1, none⟩ (.int .i64 ((rd_T132 l1_1 (ji3)).f1))).setCell ⟨gb13, 2, none⟩ (.int .i64 ((rd_T132 l1_1 (ji3)).f2)))) := ⟨bels⟩
    (try clear BK11); (try clear BK13); (try clear HB); generalize (((w21.setCell ⟨gb13, 0, none⟩ (.int .i64 ((rd_T132 l1_1 (ji3)).f0))).setCell ⟨gb13, 1, none⟩ (.int .i64 ((rd_T132 l1_1 (ji3)).f1))).setCell ⟨gb13, 2, none⟩ (.int .i64 ((rd_T132 l1_1 (ji3)).f2))) = w24 at n0_ n1_ n2_ ⊢; have BK11 := n0_; have BK13 := n1_; have HB := n2_; clear n0_ n1_ n2_; replace BK11 := Aside0.mk (blk_drew BK11.out); replace BK13 := Aside0.mk (blk_drew BK13.out); replace HB := Aside0.mk (below_drew1 HB.out)
    have p14 : 0 ≤ (((rd_T132 l1_1 (ji3)).f0) : Int) := pq0
    have q14 : ((rd_T132 l1_1 (ji3)).f0) < (l0.length : Int) := pq0
    obtain ⟨ad14, e14, hx14_0, hx14_1, hx14_2, hx14_3⟩ := at_T95 HR0.out ((rd_T132 l1_1 (ji3)).f0) p14 q14; have hw14_3 := hx14_3; have hw14_2 := hx14_2; have hw14_1 := hx14_1; have hw14_0 := hx14_0
    cases e14
    replace hx14_0 := hxb hx14_0; replace hx14_1 := hxb hx14_1; replace hx14_2 := hxb hx14_2; replace hx14_3 := hxb hx14_3; replace p14 := eq_true p14; replace q14 := eq_true q14
    have p15 : 0 ≤ (((rd_T132 l1_1 (ji3)).f0) : Int) := pq0
    have q15 : ((rd_T132 l1_1 (ji3)).f0) < (l0.length : Int) := pq0
    obtain ⟨ad15, e15, hx15_0, hx15_1, hx15_2, hx15_3⟩ := at_T95 HR0.out ((rd_T132 l1_1 (ji3)).f0) p15 q15; have hw15_3 := hx15_3; have hw15_2 := hx15_2; have hw15_1 := hx15_1; have hw15_0 := hx15_0
    obtain rfl : ad14 = ad15 := (by injection e15)
    replace hx15_0 := hxb hx15_0; replace hx15_1 := hxb hx15_1; replace hx15_2 := hxb hx15_2; replace hx15_3 := hxb hx15_3; replace p15 := eq_true p15; replace q15 := eq_true q15
    refine start_ (n := 19) (S := fun w' => w'.cell? ⟨gb13, 0, none⟩ = some (.int .i64 ((rd_T132 l1_1 (ji3)).f0)) ∧ w'.cell? ⟨gb13, 1, none⟩ = some (.int .i64 ((rd_T132 l1_1 (ji3)).f1)) ∧ w'.cell? ⟨gb13, 2, none⟩ = some (.int .i64 ((rd_T132 l1_1 (ji3)).f2)) ∧ w'.cell? (ad14.add ((((rd_T132 l1_1 (ji3)).f0)).toNat * 4)) = some (.int .i64 ((rd_T95 l0 ((rd_T132 l1_1 (ji3)).f0)).f0)) ∧ w'.cell? ⟨(ad14.add ((((rd_T132 l1_1 (ji3)).f0)).toNat * 4)).block, (ad14.add ((((rd_T132 l1_1 (ji3)).f0)).toNat * 4)).off + 1, none⟩ = some (.int .i64 ((rd_T95 l0 ((rd_T132 l1_1 (ji3)).f0)).f1)) ∧ w'.cell? ⟨(ad14.add ((((rd_T132 l1_1 (ji3)).f0)).toNat * 4)).block, (ad14.add ((((rd_T132 l1_1 (ji3)).f0)).toNat * 4)).off + 2, none⟩ = some (.int .i64 ((rd_T95 l0 ((rd_T132 l1_1 (ji3)).f0)).f2)) ∧ w'.cell? ⟨(ad14.add ((((rd_T132 l1_1 (ji3)).f0)).toNat * 4)).block, (ad14.add ((((rd_T132 l1_1 (ji3)).f0)).toNat * 4)).off + 3, none⟩ = some (.int .i64 ((rd_T95 l0 ((rd_T132 l1_1 (ji3)).f0)).f3)) ∧ w'.cell? (ad14.add ((((rd_T132 l1_1 (ji3)).f0)).toNat * 4)) = some (.int .i64 ((rd_T95 l0 ((rd_T132 l1_1 (ji3)).f0)).f0)) ∧ w'.cell? ⟨(ad14.add ((((rd_T132 l1_1 (ji3)).f0)).toNat * 4)).block, (ad14.add ((((rd_T132 l1_1 (ji3)).f0)).toNat * 4)).off + 1, none⟩ = some (.int .i64 ((rd_T95 l0 ((rd_T132 l1_1 (ji3)).f0)).f1)) ∧ w'.cell? ⟨(ad14.add ((((rd_T132 l1_1 (ji3)).f0)).toNat * 4)).block, (ad14.add ((((rd_T132 l1_1 (ji3)).f0)).toNat * 4)).off + 2, none⟩ = some (.int .i64 ((rd_T95 l0 ((rd_T132 l1_1 (ji3)).f0)).f2)) ∧ w'.cell? ⟨(ad14.add ((((rd_T132 l1_1 (ji3)).f0)).toNat * 4)).block, (ad14.add ((((rd_T132 l1_1 (ji3)).f0)).toNat * 4)).off + 3, none⟩ = some (.int .i64 ((rd_T95 l0 ((rd_T132 l1_1 (ji3)).f0)).f3))) (ds := []) _ (by kernel_rfl) rfl rfl ⟨bz BK13 0, bz BK13 1, bz BK13 2, (hxb hw14_0), (hxb hw14_1), (hxb hw14_2), (hxb hw14_3), (hxb hw15_0), (hxb hw15_1), (hxb hw15_2), (hxb hw15_3)⟩ (fun hHeld => ?_); refine with_tabW spec_l13Splits.tab2 spec_l13Splits.bits2 (fun HT_ HW_ => ?_)
    generalize w24.drew = w25 at BK11 BK13 HB hx14_0 hx14_1 hx14_2 hx14_3 hx15_0 hx15_1 hx15_2 hx15_3 hHeld ⊢; refine wp 0 2 ?_; refine tm11 2 17 ?_; refine wp 3 5 ?_; refine tm11 5 20 ?_; refine pm 6 21 ?_; refine pm 7 22 ?_; refine pm 8 23 ?_; refine pm 9 24 ?_; refine pm 14 29 ?_; refine tm11 10 25 ?_; refine wp 11 13 ?_; refine tm11 13 28 ?_; refine tm11 15 30 ?_; refine wp 16 19 ?_
    refine done_ (done_of HT_.out (by kernel_rfl)) ?_
    try go_wp2
    replace BK11 := Aside0.mk (blk_drew BK11.out); replace BK13 := Aside0.mk (blk_drew BK13.out); replace HB := Aside0.mk (below_drew1 HB.out)
    have p16 : 0 ≤ (((rd_T132 l1_1 (ji3)).f0) : Int) := pq0
    have q16 : ((rd_T132 l1_1 (ji3)).f0) < (l0.length : Int) := pq0
    obtain ⟨ad16, e16, hx16_0, hx16_1, hx16_2, hx16_3⟩ := at_T95 HR0.out ((rd_T132 l1_1 (ji3)).f0) p16 q16; have hw16_3 := hx16_3; have hw16_2 := hx16_2; have hw16_1 := hx16_1; have hw16_0 := hx16_0
    obtain rfl : ad14 = ad16 := (by injection e16)
    replace hx16_0 := hxb hx16_0; replace hx16_1 := hxb hx16_1; replace hx16_2 := hxb hx16_2; replace hx16_3 := hxb hx16_3; replace p16 := eq_true p16; replace q16 := eq_true q16
    refine start_ (n := 9) (S := fun w' => w'.cell? ⟨gb11, 0, none⟩ = some (.int .i64 a1_0) ∧ w'.cell? ⟨gb11, 1, none⟩ = some (.slice (some ad12) l1_1.length c1_1) ∧ w'.cell? ⟨gb11, 2, none⟩ = some (.slice A1_2 l1_2.length c1_2) ∧ w'.cell? ⟨gb13, 0, none⟩ = some (.int .i64 ((rd_T132 l1_1 (ji3)).f0)) ∧ w'.cell? ⟨gb13, 1, none⟩ = some (.int .i64 ((rd_T132 l1_1 (ji3)).f1)) ∧ w'.cell? ⟨gb13, 2, none⟩ = some (.int .i64 ((rd_T132 l1_1 (ji3)).f2)) ∧ w'.cell? (ad14.add ((((rd_T132 l1_1 (ji3)).f0)).toNat * 4)) = some (.int .i64 ((rd_T95 l0 ((rd_T132 l1_1 (ji3)).f0)).f0)) ∧ w'.cell? ⟨(ad14.add ((((rd_T132 l1_1 (ji3)).f0)).toNat * 4)).block, (ad14.add ((((rd_T132 l1_1 (ji3)).f0)).toNat * 4)).off + 1, none⟩ = some (.int .i64 ((rd_T95 l0 ((rd_T132 l1_1 (ji3)).f0)).f1)) ∧ w'.cell? ⟨(ad14.add ((((rd_T132 l1_1 (ji3)).f0)).toNat * 4)).block, (ad14.add ((((rd_T132 l1_1 (ji3)).f0)).toNat * 4)).off + 2, none⟩ = some (.int .i64 ((rd_T95 l0 ((rd_T132 l1_1 (ji3)).f0)).f2)) ∧ w'.cell? ⟨(ad14.add ((((rd_T132 l1_1 (ji3)).f0)).toNat * 4)).block, (ad14.add ((((rd_T132 l1_1 (ji3)).f0)).toNat * 4)).off + 3, none⟩ = some (.int .i64 ((rd_T95 l0 ((rd_T132 l1_1 (ji3)).f0)).f3))) (ds := []) _ (by kernel_rfl) rfl rfl ⟨bz BK11 0, bz BK11 1, bz BK11 2, bz BK13 0, bz BK13 1, bz BK13 2, (hxb hw16_0), (hxb hw16_1), (hxb hw16_2), (hxb hw16_3)⟩ (fun hHeld => ?_); refine with_tabW spec_l13Splits.tab4 spec_l13Splits.bits4 (fun HT_ HW_ => ?_)
    generalize w25.drew = w26 at BK11 BK13 HB hx16_0 hx16_1 hx16_2 hx16_3 hHeld ⊢; refine wp 1 3 ?_; refine tm10 0 34 ?_; refine tm10 3 37 ?_; refine wp 4 6 ?_; refine tm10 6 40 ?_; refine om 7 41 (fun K hK => ?_); refine goes_ Tryz.func168 (by kernel_rfl) rfl #[.agg #[.int .i64 a1_0, .slice (some ad12) l1_1.length c1_1, .slice A1_2 l1_2.length c1_2], .int .i64 ((rd_T95 l0 ((rd_T132 l1_1 (ji3)).f0)).f1)] (by rfl) rfl rfl (by (try simp only [List.map_toArray, List.map_cons, List.map_nil]); first | done | (simp only [hji3]; rfl) | rfl | (simp only [List.length_drop, List.length_take]; rfl)) ?_; refine (spec_ZeroMask.calls k a1_0 _ _ l1_1 _ _ l1_2 ((rd_T95 l0 ((rd_T132 l1_1 (ji3)).f0)).f1) t17 _ (cb HR1_1) HC1_1.out (cb HR1_2) HC1_2.out A17.out).mono ?_; rintro e w27 ⟨rfl, hb⟩; refine ⟨_, rfl, ?_⟩; replace BK11 := kb BK11 hb; replace BK13 := kb BK13 hb; replace HB := hbs hb; clear hb; refine hK.out _ _ hd (fun hHeld => ?_); clear hK K; refine nm 41 ?_; refine pm 8 6 ?_
    refine done_ (done_of HT_.out (by kernel_rfl)) ?_
    try go_wp2
    go_ret
    exact ⟨by first | rfl | (simp [errW_none, errW_some] <;> rfl) | (simp only [← hji3]; first | rfl | (simp [errW_none, errW_some] <;> rfl)) | (simp [*, errW_none, errW_some] <;> rfl), bels⟩
   ·rw [if_neg c18] at H
    have c18b0 : (t17 == 0) = false := beq_eq_false_iff_ne.mpr c18
    have c18b1 : (t17 != 0) = true := bne_iff_ne.mpr c18
    obtain rfl := oI H
    go_enter Tryz.func138, Tryz.ntmps138
    try go_wp2_with (first | (refine bxe 3 #[.int .i64 a1_0, .slice A1_1 l1_1.length c1_1, .slice A1_2 l1_2.length c1_2] 59 ?_; intro gb11 hg w28 hbox hb; have BK11 := Aside0.mk (hbox); have GW11 := Aside0.mk (gwe hg : w.heap.size ≤ _); have GE11 := GW11; replace HB := hbs hb; clear hb hbox hg; obtain ⟨_, _, _, _, _, _⟩ := box3 BK11; have p12 : 0 ≤ ((ji3) : Int) := pq0; have q12 : (ji3) < (l1_1.length : Int) := pq0; obtain ⟨ad12, e12, hx12_0, hx12_1, hx12_2⟩ := at_T132 HR1_1.out (ji3) p12 q12; cases e12; replace hx12_0 := hxb hx12_0; replace hx12_1 := hxb hx12_1; replace hx12_2 := hxb hx12_2; replace p12 := eq_true p12; replace q12 := eq_true q12) | (refine bxe 5 #[.int .i64 0, .int .i64 0, .int .i64 0] 132 ?_; intro gb13 hg w30 hbox hb; have BK13 := Aside0.mk (hbox); have GW13 := Aside0.mk (gwe hg : w.heap.size ≤ _); have GE13 := GW13; have NB11_13 := Aside0.mk (nbl hg BK11); have NB13_11 := Aside0.mk (nbg hg BK11); replace BK11 := kb BK11 hb; replace HB := hbs hb; clear hb hbox hg; have hnb31 := NB13_11.out; have hnc31 := NB11_13.out; obtain ⟨_, _, _, _, _, _⟩ := box3 BK13))
    have n0_ : Aside0 ((((w30.setCell ⟨gb13, 0, none⟩ (.int .i64 ((rd_T132 l1_1 (ji3)).f0))).setCell ⟨gb13, 1, none⟩ (.int .i64 ((rd_T132 l1_1 (ji3)).f1))).setCell ⟨gb13, 2, none⟩ (.int .i64 ((rd_T132 l1_1 (ji3)).f2))).heap[gb11]? = some (.cells #[.int .i64 a1_0, .slice (some ad12) l1_1.length c1_1, .slice A1_2 l1_2.length c1_2] 59 (0, 0))) := ⟨bk⟩
    have n1_ : Aside0 ((((w30.setCell ⟨gb13, 0, none⟩ (.int .i64 ((rd_T132 l1_1 (ji3)).f0))).setCell ⟨gb13, 1, none⟩ (.int .i64 ((rd_T132 l1_1 (ji3)).f1))).setCell ⟨gb13, 2, none⟩ (.int .i64 ((rd_T132 l1_1 (ji3)).f2))).heap[gb13]? = some (.cells #[.int .i64 ((rd_T132 l1_1 (ji3)).f0), .int .i64 ((rd_T132 l1_1 (ji3)).f1), .int .i64 ((rd_T132 l1_1 (ji3)).f2)] 132 (0, 0))) := ⟨bkp⟩
    have n2_ : Aside0 (Below w.heap.size w (((w30.setCell ⟨gb13, 0, none⟩ (.int .i64 ((rd_T132 l1_1 (ji3)).f0))).setCell ⟨gb13, 1, none⟩ (.int .i64 ((rd_T132 l1_1 (ji3)).f1))).setCell ⟨gb13, 2, none⟩ (.int .i64 ((rd_T132 l1_1 (ji3)).f2)))) := ⟨bels⟩
    (try clear BK11); (try clear BK13); (try clear HB); generalize (((w30.setCell ⟨gb13, 0, none⟩ (.int .i64 ((rd_T132 l1_1 (ji3)).f0))).setCell ⟨gb13, 1, none⟩ (.int .i64 ((rd_T132 l1_1 (ji3)).f1))).setCell ⟨gb13, 2, none⟩ (.int .i64 ((rd_T132 l1_1 (ji3)).f2))) = w33 at n0_ n1_ n2_ ⊢; have BK11 := n0_; have BK13 := n1_; have HB := n2_; clear n0_ n1_ n2_; replace BK11 := Aside0.mk (blk_drew BK11.out); replace BK13 := Aside0.mk (blk_drew BK13.out); replace HB := Aside0.mk (below_drew1 HB.out)
    have p14 : 0 ≤ (((rd_T132 l1_1 (ji3)).f0) : Int) := pq0
    have q14 : ((rd_T132 l1_1 (ji3)).f0) < (l0.length : Int) := pq0
    obtain ⟨ad14, e14, hx14_0, hx14_1, hx14_2, hx14_3⟩ := at_T95 HR0.out ((rd_T132 l1_1 (ji3)).f0) p14 q14; have hw14_3 := hx14_3; have hw14_2 := hx14_2; have hw14_1 := hx14_1; have hw14_0 := hx14_0
    cases e14
    replace hx14_0 := hxb hx14_0; replace hx14_1 := hxb hx14_1; replace hx14_2 := hxb hx14_2; replace hx14_3 := hxb hx14_3; replace p14 := eq_true p14; replace q14 := eq_true q14
    have p15 : 0 ≤ (((rd_T132 l1_1 (ji3)).f0) : Int) := pq0
    have q15 : ((rd_T132 l1_1 (ji3)).f0) < (l0.length : Int) := pq0
    obtain ⟨ad15, e15, hx15_0, hx15_1, hx15_2, hx15_3⟩ := at_T95 HR0.out ((rd_T132 l1_1 (ji3)).f0) p15 q15; have hw15_3 := hx15_3; have hw15_2 := hx15_2; have hw15_1 := hx15_1; have hw15_0 := hx15_0
    obtain rfl : ad14 = ad15 := (by injection e15)
    replace hx15_0 := hxb hx15_0; replace hx15_1 := hxb hx15_1; replace hx15_2 := hxb hx15_2; replace hx15_3 := hxb hx15_3; replace p15 := eq_true p15; replace q15 := eq_true q15
    refine start_ (n := 19) (S := fun w' => w'.cell? ⟨gb13, 0, none⟩ = some (.int .i64 ((rd_T132 l1_1 (ji3)).f0)) ∧ w'.cell? ⟨gb13, 1, none⟩ = some (.int .i64 ((rd_T132 l1_1 (ji3)).f1)) ∧ w'.cell? ⟨gb13, 2, none⟩ = some (.int .i64 ((rd_T132 l1_1 (ji3)).f2)) ∧ w'.cell? (ad14.add ((((rd_T132 l1_1 (ji3)).f0)).toNat * 4)) = some (.int .i64 ((rd_T95 l0 ((rd_T132 l1_1 (ji3)).f0)).f0)) ∧ w'.cell? ⟨(ad14.add ((((rd_T132 l1_1 (ji3)).f0)).toNat * 4)).block, (ad14.add ((((rd_T132 l1_1 (ji3)).f0)).toNat * 4)).off + 1, none⟩ = some (.int .i64 ((rd_T95 l0 ((rd_T132 l1_1 (ji3)).f0)).f1)) ∧ w'.cell? ⟨(ad14.add ((((rd_T132 l1_1 (ji3)).f0)).toNat * 4)).block, (ad14.add ((((rd_T132 l1_1 (ji3)).f0)).toNat * 4)).off + 2, none⟩ = some (.int .i64 ((rd_T95 l0 ((rd_T132 l1_1 (ji3)).f0)).f2)) ∧ w'.cell? ⟨(ad14.add ((((rd_T132 l1_1 (ji3)).f0)).toNat * 4)).block, (ad14.add ((((rd_T132 l1_1 (ji3)).f0)).toNat * 4)).off + 3, none⟩ = some (.int .i64 ((rd_T95 l0 ((rd_T132 l1_1 (ji3)).f0)).f3)) ∧ w'.cell? (ad14.add ((((rd_T132 l1_1 (ji3)).f0)).toNat * 4)) = some (.int .i64 ((rd_T95 l0 ((rd_T132 l1_1 (ji3)).f0)).f0)) ∧ w'.cell? ⟨(ad14.add ((((rd_T132 l1_1 (ji3)).f0)).toNat * 4)).block, (ad14.add ((((rd_T132 l1_1 (ji3)).f0)).toNat * 4)).off + 1, none⟩ = some (.int .i64 ((rd_T95 l0 ((rd_T132 l1_1 (ji3)).f0)).f1)) ∧ w'.cell? ⟨(ad14.add ((((rd_T132 l1_1 (ji3)).f0)).toNat * 4)).block, (ad14.add ((((rd_T132 l1_1 (ji3)).f0)).toNat * 4)).off + 2, none⟩ = some (.int .i64 ((rd_T95 l0 ((rd_T132 l1_1 (ji3)).f0)).f2)) ∧ w'.cell? ⟨(ad14.add ((((rd_T132 l1_1 (ji3)).f0)).toNat * 4)).block, (ad14.add ((((rd_T132 l1_1 (ji3)).f0)).toNat * 4)).off + 3, none⟩ = some (.int .i64 ((rd_T95 l0 ((rd_T132 l1_1 (ji3)).f0)).f3))) (ds := []) _ (by kernel_rfl) rfl rfl ⟨bz BK13 0, bz BK13 1, bz BK13 2, (hxb hw14_0), (hxb hw14_1), (hxb hw14_2), (hxb hw14_3), (hxb hw15_0), (hxb hw15_1), (hxb hw15_2), (hxb hw15_3)⟩ (fun hHeld => ?_); refine with_tabW spec_l13Splits.tab2 spec_l13Splits.bits2 (fun HT_ HW_ => ?_)
    generalize w33.drew = w34 at BK11 BK13 HB hx14_0 hx14_1 hx14_2 hx14_3 hx15_0 hx15_1 hx15_2 hx15_3 hHeld ⊢; refine wp 0 2 ?_; refine tm11 2 17 ?_; refine wp 3 5 ?_; refine tm11 5 20 ?_; refine pm 6 21 ?_; refine pm 7 22 ?_; refine pm 8 23 ?_; refine pm 9 24 ?_; refine pm 14 29 ?_; refine tm11 10 25 ?_; refine wp 11 13 ?_; refine tm11 13 28 ?_; refine tm11 15 30 ?_; refine wp 16 19 ?_
    refine done_ (done_of HT_.out (by kernel_rfl)) ?_
    try go_wp2
    replace BK11 := Aside0.mk (blk_drew BK11.out); replace BK13 := Aside0.mk (blk_drew BK13.out); replace HB := Aside0.mk (below_drew1 HB.out)
    have p16 : 0 ≤ (((rd_T132 l1_1 (ji3)).f0) : Int) := pq0
    have q16 : ((rd_T132 l1_1 (ji3)).f0) < (l0.length : Int) := pq0
    obtain ⟨ad16, e16, hx16_0, hx16_1, hx16_2, hx16_3⟩ := at_T95 HR0.out ((rd_T132 l1_1 (ji3)).f0) p16 q16; have hw16_3 := hx16_3; have hw16_2 := hx16_2; have hw16_1 := hx16_1; have hw16_0 := hx16_0
    obtain rfl : ad14 = ad16 := (by injection e16)
    replace hx16_0 := hxb hx16_0; replace hx16_1 := hxb hx16_1; replace hx16_2 := hxb hx16_2; replace hx16_3 := hxb hx16_3; replace p16 := eq_true p16; replace q16 := eq_true q16
    refine start_ (n := 9) (S := fun w' => w'.cell? ⟨gb11, 0, none⟩ = some (.int .i64 a1_0) ∧ w'.cell? ⟨gb11, 1, none⟩ = some (.slice (some ad12) l1_1.length c1_1) ∧ w'.cell? ⟨gb11, 2, none⟩ = some (.slice A1_2 l1_2.length c1_2) ∧ w'.cell? ⟨gb13, 0, none⟩ = some (.int .i64 ((rd_T132 l1_1 (ji3)).f0)) ∧ w'.cell? ⟨gb13, 1, none⟩ = some (.int .i64 ((rd_T132 l1_1 (ji3)).f1)) ∧ w'.cell? ⟨gb13, 2, none⟩ = some (.int .i64 ((rd_T132 l1_1 (ji3)).f2)) ∧ w'.cell? (ad14.add ((((rd_T132 l1_1 (ji3)).f0)).toNat * 4)) = some (.int .i64 ((rd_T95 l0 ((rd_T132 l1_1 (ji3)).f0)).f0)) ∧ w'.cell? ⟨(ad14.add ((((rd_T132 l1_1 (ji3)).f0)).toNat * 4)).block, (ad14.add ((((rd_T132 l1_1 (ji3)).f0)).toNat * 4)).off + 1, none⟩ = some (.int .i64 ((rd_T95 l0 ((rd_T132 l1_1 (ji3)).f0)).f1)) ∧ w'.cell? ⟨(ad14.add ((((rd_T132 l1_1 (ji3)).f0)).toNat * 4)).block, (ad14.add ((((rd_T132 l1_1 (ji3)).f0)).toNat * 4)).off + 2, none⟩ = some (.int .i64 ((rd_T95 l0 ((rd_T132 l1_1 (ji3)).f0)).f2)) ∧ w'.cell? ⟨(ad14.add ((((rd_T132 l1_1 (ji3)).f0)).toNat * 4)).block, (ad14.add ((((rd_T132 l1_1 (ji3)).f0)).toNat * 4)).off + 3, none⟩ = some (.int .i64 ((rd_T95 l0 ((rd_T132 l1_1 (ji3)).f0)).f3))) (ds := []) _ (by kernel_rfl) rfl rfl ⟨bz BK11 0, bz BK11 1, bz BK11 2, bz BK13 0, bz BK13 1, bz BK13 2, (hxb hw16_0), (hxb hw16_1), (hxb hw16_2), (hxb hw16_3)⟩ (fun hHeld => ?_); refine with_tabW spec_l13Splits.tab4 spec_l13Splits.bits4 (fun HT_ HW_ => ?_)
    generalize w34.drew = w35 at BK11 BK13 HB hx16_0 hx16_1 hx16_2 hx16_3 hHeld ⊢; refine wp 1 3 ?_; refine tm10 0 34 ?_; refine tm10 3 37 ?_; refine wp 4 6 ?_; refine tm10 6 40 ?_; refine om 7 41 (fun K hK => ?_); refine goes_ Tryz.func168 (by kernel_rfl) rfl #[.agg #[.int .i64 a1_0, .slice (some ad12) l1_1.length c1_1, .slice A1_2 l1_2.length c1_2], .int .i64 ((rd_T95 l0 ((rd_T132 l1_1 (ji3)).f0)).f1)] (by rfl) rfl rfl (by (try simp only [List.map_toArray, List.map_cons, List.map_nil]); first | done | (simp only [hji3]; rfl) | rfl | (simp only [List.length_drop, List.length_take]; rfl)) ?_; refine (spec_ZeroMask.calls k a1_0 _ _ l1_1 _ _ l1_2 ((rd_T95 l0 ((rd_T132 l1_1 (ji3)).f0)).f1) t17 _ (cb HR1_1) HC1_1.out (cb HR1_2) HC1_2.out A17.out).mono ?_; rintro e w36 ⟨rfl, hb⟩; refine ⟨_, rfl, ?_⟩; replace BK11 := kb BK11 hb; replace BK13 := kb BK13 hb; replace HB := hbs hb; clear hb; refine hK.out _ _ hd (fun hHeld => ?_); clear hK K; refine nm 41 ?_; refine pm 8 6 ?_
    refine done_ (done_of HT_.out (by kernel_rfl)) ?_
    obtain ⟨_, _, _, _, _, _⟩ := box3 BK13
    try go_wp2
    go_ret
    exact ⟨by first | rfl | (simp [errW_none, errW_some] <;> rfl) | (simp only [← hji3]; first | rfl | (simp [errW_none, errW_some] <;> rfl)) | (simp [*, errW_none, errW_some] <;> rfl), bels⟩
 ·rw [if_neg c8] at H
  have c8b0 : (((rd_T95 l0 ((rd_T132 l1_1 (ji3)).f0)).f0) == 10) = false := beq_eq_false_iff_ne.mpr c8
  have c8b1 : (((rd_T95 l0 ((rd_T132 l1_1 (ji3)).f0)).f0) != 10) = true := bne_iff_ne.mpr c8
  obtain rfl := oI H
  go_enter Tryz.func138, Tryz.ntmps138
  try go_wp2_with (first | (refine bxe 3 #[.int .i64 a1_0, .slice A1_1 l1_1.length c1_1, .slice A1_2 l1_2.length c1_2] 59 ?_; intro gb11 hg w38 hbox hb; have BK11 := Aside0.mk (hbox); have GW11 := Aside0.mk (gwe hg : w.heap.size ≤ _); have GE11 := GW11; replace HB := hbs hb; clear hb hbox hg; obtain ⟨_, _, _, _, _, _⟩ := box3 BK11; have p12 : 0 ≤ ((ji3) : Int) := pq0; have q12 : (ji3) < (l1_1.length : Int) := pq0; obtain ⟨ad12, e12, hx12_0, hx12_1, hx12_2⟩ := at_T132 HR1_1.out (ji3) p12 q12; cases e12; replace hx12_0 := hxb hx12_0; replace hx12_1 := hxb hx12_1; replace hx12_2 := hxb hx12_2; replace p12 := eq_true p12; replace q12 := eq_true q12) | (refine bxe 5 #[.int .i64 0, .int .i64 0, .int .i64 0] 132 ?_; intro gb13 hg w40 hbox hb; have BK13 := Aside0.mk (hbox); have GW13 := Aside0.mk (gwe hg : w.heap.size ≤ _); have GE13 := GW13; have NB11_13 := Aside0.mk (nbl hg BK11); have NB13_11 := Aside0.mk (nbg hg BK11); replace BK11 := kb BK11 hb; replace HB := hbs hb; clear hb hbox hg; have hnb41 := NB13_11.out; have hnc41 := NB11_13.out; obtain ⟨_, _, _, _, _, _⟩ := box3 BK13))
  have n0_ : Aside0 ((((w40.setCell ⟨gb13, 0, none⟩ (.int .i64 ((rd_T132 l1_1 (ji3)).f0))).setCell ⟨gb13, 1, none⟩ (.int .i64 ((rd_T132 l1_1 (ji3)).f1))).setCell ⟨gb13, 2, none⟩ (.int .i64 ((rd_T132 l1_1 (ji3)).f2))).heap[gb11]? = some (.cells #[.int .i64 a1_0, .slice (some ad12) l1_1.length c1_1, .slice A1_2 l1_2.length c1_2] 59 (0, 0))) := ⟨bk⟩
  have n1_ : Aside0 ((((w40.setCell ⟨gb13, 0, none⟩ (.int .i64 ((rd_T132 l1_1 (ji3)).f0))).setCell ⟨gb13, 1, none⟩ (.int .i64 ((rd_T132 l1_1 (ji3)).f1))).setCell ⟨gb13, 2, none⟩ (.int .i64 ((rd_T132 l1_1 (ji3)).f2))).heap[gb13]? = some (.cells #[.int .i64 ((rd_T132 l1_1 (ji3)).f0), .int .i64 ((rd_T132 l1_1 (ji3)).f1), .int .i64 ((rd_T132 l1_1 (ji3)).f2)] 132 (0, 0))) := ⟨bkp⟩
  have n2_ : Aside0 (Below w.heap.size w (((w40.setCell ⟨gb13, 0, none⟩ (.int .i64 ((rd_T132 l1_1 (ji3)).f0))).setCell ⟨gb13, 1, none⟩ (.int .i64 ((rd_T132 l1_1 (ji3)).f1))).setCell ⟨gb13, 2, none⟩ (.int .i64 ((rd_T132 l1_1 (ji3)).f2)))) := ⟨bels⟩
  (try clear BK11); (try clear BK13); (try clear HB); generalize (((w40.setCell ⟨gb13, 0, none⟩ (.int .i64 ((rd_T132 l1_1 (ji3)).f0))).setCell ⟨gb13, 1, none⟩ (.int .i64 ((rd_T132 l1_1 (ji3)).f1))).setCell ⟨gb13, 2, none⟩ (.int .i64 ((rd_T132 l1_1 (ji3)).f2))) = w43 at n0_ n1_ n2_ ⊢; have BK11 := n0_; have BK13 := n1_; have HB := n2_; clear n0_ n1_ n2_; replace BK11 := Aside0.mk (blk_drew BK11.out); replace BK13 := Aside0.mk (blk_drew BK13.out); replace HB := Aside0.mk (below_drew1 HB.out)
  have p14 : 0 ≤ (((rd_T132 l1_1 (ji3)).f0) : Int) := pq0
  have q14 : ((rd_T132 l1_1 (ji3)).f0) < (l0.length : Int) := pq0
  obtain ⟨ad14, e14, hx14_0, hx14_1, hx14_2, hx14_3⟩ := at_T95 HR0.out ((rd_T132 l1_1 (ji3)).f0) p14 q14; have hw14_3 := hx14_3; have hw14_2 := hx14_2; have hw14_1 := hx14_1; have hw14_0 := hx14_0
  cases e14
  replace hx14_0 := hxb hx14_0; replace hx14_1 := hxb hx14_1; replace hx14_2 := hxb hx14_2; replace hx14_3 := hxb hx14_3; replace p14 := eq_true p14; replace q14 := eq_true q14
  refine start_ (n := 19) (S := fun w' => w'.cell? ⟨gb13, 0, none⟩ = some (.int .i64 ((rd_T132 l1_1 (ji3)).f0)) ∧ w'.cell? ⟨gb13, 1, none⟩ = some (.int .i64 ((rd_T132 l1_1 (ji3)).f1)) ∧ w'.cell? ⟨gb13, 2, none⟩ = some (.int .i64 ((rd_T132 l1_1 (ji3)).f2)) ∧ w'.cell? (ad14.add ((((rd_T132 l1_1 (ji3)).f0)).toNat * 4)) = some (.int .i64 ((rd_T95 l0 ((rd_T132 l1_1 (ji3)).f0)).f0)) ∧ w'.cell? ⟨(ad14.add ((((rd_T132 l1_1 (ji3)).f0)).toNat * 4)).block, (ad14.add ((((rd_T132 l1_1 (ji3)).f0)).toNat * 4)).off + 1, none⟩ = some (.int .i64 ((rd_T95 l0 ((rd_T132 l1_1 (ji3)).f0)).f1)) ∧ w'.cell? ⟨(ad14.add ((((rd_T132 l1_1 (ji3)).f0)).toNat * 4)).block, (ad14.add ((((rd_T132 l1_1 (ji3)).f0)).toNat * 4)).off + 2, none⟩ = some (.int .i64 ((rd_T95 l0 ((rd_T132 l1_1 (ji3)).f0)).f2)) ∧ w'.cell? ⟨(ad14.add ((((rd_T132 l1_1 (ji3)).f0)).toNat * 4)).block, (ad14.add ((((rd_T132 l1_1 (ji3)).f0)).toNat * 4)).off + 3, none⟩ = some (.int .i64 ((rd_T95 l0 ((rd_T132 l1_1 (ji3)).f0)).f3))) (ds := []) _ (by kernel_rfl) rfl rfl ⟨bz BK13 0, bz BK13 1, bz BK13 2, (hxb hw14_0), (hxb hw14_1), (hxb hw14_2), (hxb hw14_3)⟩ (fun hHeld => ?_); refine with_tabW spec_l13Splits.tab2 spec_l13Splits.bits2 (fun HT_ HW_ => ?_)
  generalize w43.drew = w44 at BK11 BK13 HB hx14_0 hx14_1 hx14_2 hx14_3 hHeld ⊢; refine wp 0 2 ?_; refine tm7 2 17 ?_; refine wp 3 5 ?_; refine tm7 5 20 ?_; refine wp 6 8 ?_
  refine wu 8 18 ?_
  refine pm 18 33 ?_
  refine done_ (done_of HT_.out (by kernel_rfl)) ?_
  try go_wp2
  go_ret
  exact ⟨by first | rfl | (simp [errW_none, errW_some] <;> rfl) | (simp only [← hji3]; first | rfl | (simp [errW_none, errW_some] <;> rfl)) | (simp [*, errW_none, errW_some] <;> rfl), bels⟩

/-! ### spec_l13Local: function 105 -/
def spec_l13Local.f (k : Nat) (l0 : List (S95)) (a1_0 : Int) (l1_1 : List (S132)) (l1_2 : List Int) : Option (Bool) := if (l1_1.length : Int) = 0 then (some false) else (if 0 ≤ (wrap64 ((l1_1.length : Int) - 1)) then (if (wrap64 ((l1_1.length : Int) - 1)) < (l1_1.length : Int) then (if 0 ≤ ((rd_T132 l1_1 (wrap64 ((l1_1.length : Int) - 1))).f0) then (if ((rd_T132 l1_1 (wrap64 ((l1_1.length : Int) - 1))).f0) < (l0.length : Int) then ((spec_IsLocal.f ((rd_T95 l0 ((rd_T132 l1_1 (wrap64 ((l1_1.length : Int) - 1))).f0)).f0) ((rd_T95 l0 ((rd_T132 l1_1 (wrap64 ((l1_1.length : Int) - 1))).f0)).f1) ((rd_T95 l0 ((rd_T132 l1_1 (wrap64 ((l1_1.length : Int) - 1))).f0)).f2) ((rd_T95 l0 ((rd_T132 l1_1 (wrap64 ((l1_1.length : Int) - 1))).f0)).f3)).bind fun t14 => (if t14 = true then ((spec_l13Splits.f k l0 a1_0 l1_1 l1_2).bind fun t15 => (if t15 = true then (some (decide ((l1_1.length : Int) ≤ 22))) else (some true))) else (some false))) else (none)) else (none)) else (none)) else (none))
set_option maxHeartbeats 8000000 in
set_option maxRecDepth 100000 in
theorem spec_l13Local.calls (k : Nat) (A0 : Option Addr) (c0 : Nat) (l0 : List (S95)) (a1_0 : Int) (A1_1 : Option Addr) (c1_1 : Nat) (l1_1 : List (S132)) (A1_2 : Option Addr) (c1_2 : Nat) (l1_2 : List Int) (r : Bool) (w : World) (hr0 : Kd.C k95 w A0 l0.length l0) (hc0 : l0.length ≤ c0) (hr1_1 : Kd.C k132 w A1_1 l1_1.length l1_1) (hc1_1 : l1_1.length ≤ c1_1) (hr1_2 : Kd.C (Kd.int .i64) w A1_2 l1_2.length l1_2) (hc1_2 : l1_2.length ≤ c1_2) (h : spec_l13Local.f k l0 a1_0 l1_1 l1_2 = some r) :
  Calls Tryz.prog 105 #[.slice A0 l0.length c0, .agg #[.int .i64 a1_0, .slice A1_1 l1_1.length c1_1, .slice A1_2 l1_2.length c1_2]] w fun e w' => e = .returned (.bool r) ∧ Below w.heap.size w w' := by
 have hu59 := Tryz.underlying59; have hu95 := Tryz.underlying95; have HR0 := Aside0.mk hr0; have HC0 := Aside0.mk hc0; clear hr0 hc0; have HR1_1 := Aside0.mk hr1_1; have HC1_1 := Aside0.mk hc1_1; clear hr1_1 hc1_1; have HR1_2 := Aside0.mk hr1_2; have HC1_2 := Aside0.mk hc1_2; clear hr1_2 hc1_2; have HB := Aside0.mk (Below.refl w.heap.size w)
 have H : (if (l1_1.length : Int) = 0 then (some false) else (if 0 ≤ (wrap64 ((l1_1.length : Int) - 1)) then (if (wrap64 ((l1_1.length : Int) - 1)) < (l1_1.length : Int) then (if 0 ≤ ((rd_T132 l1_1 (wrap64 ((l1_1.length : Int) - 1))).f0) then (if ((rd_T132 l1_1 (wrap64 ((l1_1.length : Int) - 1))).f0) < (l0.length : Int) then ((spec_IsLocal.f ((rd_T95 l0 ((rd_T132 l1_1 (wrap64 ((l1_1.length : Int) - 1))).f0)).f0) ((rd_T95 l0 ((rd_T132 l1_1 (wrap64 ((l1_1.length : Int) - 1))).f0)).f1) ((rd_T95 l0 ((rd_T132 l1_1 (wrap64 ((l1_1.length : Int) - 1))).f0)).f2) ((rd_T95 l0 ((rd_T132 l1_1 (wrap64 ((l1_1.length : Int) - 1))).f0)).f3)).bind fun t14 => (if t14 = true then ((spec_l13Splits.f k l0 a1_0 l1_1 l1_2).bind fun t15 => (if t15 = true then (some (decide ((l1_1.length : Int) ≤ 22))) else (some true))) else (some false))) else (none)) else (none)) else (none)) else (none))) = some r := h
 clear h
 by_cases c3 : (l1_1.length : Int) = 0
 ·rw [if_pos c3] at H
  have c3b0 : ((l1_1.length : Int) == 0) = true := beq_iff_eq.mpr c3
  have c3b1 : ((l1_1.length : Int) != 0) = false := bne_eq_false_iff_eq.mpr c3
  clear c3; obtain rfl := oI H
  go_enter Tryz.func105, Tryz.ntmps105
  go_wp2_with (first | ((with_reducible refine gate_dst (N := 3) rfl ?_); (try (refine gate_guard (by rfl) ?_; dsimp only)); refine box_event ?hg (N := 3) ?hd (cs := #[.int .i64 a1_0, .slice A1_1 l1_1.length c1_1, .slice A1_2 l1_2.length c1_2]) (t := 59) ?hr ?_; (case hd => rfl); (case hg => rfl); (case hr => exact gs); intro gb11 hg w4 hbox hb; have BK11 := Aside0.mk (hbox); have GW11 := Aside0.mk (gwe hg : w.heap.size ≤ _); have GE11 := GW11; replace HB := hbs hb; clear hb hbox hg; obtain ⟨_, _, _, _, _, _⟩ := box3 BK11))
  go_ret
  exact ⟨rfe, bels⟩
 ·rw [if_neg c3] at H
  have c3b0 : ((l1_1.length : Int) == 0) = false := beq_eq_false_iff_ne.mpr c3
  have c3b1 : ((l1_1.length : Int) != 0) = true := bne_iff_ne.mpr c3
  have c3b2 : ¬ (l1_1 = []) := fun h_ => c3 (by rw [h_]; rfl)
  obtain ⟨ji6, hji6⟩ : ∃ j_ : Int, (wrap64 ((l1_1.length : Int) - 1)) = j_ := ⟨_, rfl⟩
  (first | rw [hji6] at H | simp only [hji6] at H)
  have hji6w : (IntKind.i64.wrap ((l1_1.length : Int) - 1)) = ji6 := (i64_w _).trans hji6
  obtain ⟨c7, H⟩ := ifS H
  have c7b0 := decide_eq_true c7
  clear c7
  obtain ⟨c8, H⟩ := ifS H
  have c8b0 := decide_eq_true c8
  clear c8
  obtain ⟨c9, H⟩ := ifS H
  have c9b0 := decide_eq_true c9
  clear c9
  obtain ⟨c10, H⟩ := ifS H
  have c10b0 := decide_eq_true c10
  clear c10; obtain ⟨t14, A11, H⟩ := bnd H; (try dsimp only at H)
  by_cases c12 : t14 = true
  ·subst c12; rw [if_pos rfl] at H; obtain ⟨t15, A13, H⟩ := bnd H; (try dsimp only at H)
   by_cases c14 : t15 = true
   ·subst c14; rw [if_pos rfl] at H; obtain rfl := oI H
    go_enter Tryz.func105, Tryz.ntmps105
    go_wp2_with (first | ((with_reducible refine gate_dst (N := 3) rfl ?_); (try (refine gate_guard (by rfl) ?_; dsimp only)); refine box_event ?hg (N := 3) ?hd (cs := #[.int .i64 a1_0, .slice A1_1 l1_1.length c1_1, .slice A1_2 l1_2.length c1_2]) (t := 59) ?hr ?_; (case hd => rfl); (case hg => rfl); (case hr => exact gs); intro gb11 hg w15 hbox hb; have BK11 := Aside0.mk (hbox); have GW11 := Aside0.mk (gwe hg : w.heap.size ≤ _); have GE11 := GW11; replace HB := hbs hb; clear hb hbox hg; obtain ⟨_, _, _, _, _, _⟩ := box3 BK11; have p12 : 0 ≤ ((ji6) : Int) := pq0; have q12 : (ji6) < (l1_1.length : Int) := pq0; obtain ⟨ad12, e12, hx12_0, hx12_1, hx12_2⟩ := at_T132 HR1_1.out (ji6) p12 q12; cases e12; replace hx12_0 := hxb hx12_0; replace hx12_1 := hxb hx12_1; replace hx12_2 := hxb hx12_2; replace p12 := eq_true p12; replace q12 := eq_true q12; have p13 : 0 ≤ (((rd_T132 l1_1 (ji6)).f0) : Int) := pq0; have q13 : ((rd_T132 l1_1 (ji6)).f0) < (l0.length : Int) := pq0; obtain ⟨ad13, e13, hx13_0, hx13_1, hx13_2, hx13_3⟩ := at_T95 HR0.out ((rd_T132 l1_1 (ji6)).f0) p13 q13; cases e13; replace hx13_0 := hxb hx13_0; replace hx13_1 := hxb hx13_1; replace hx13_2 := hxb hx13_2; replace hx13_3 := hxb hx13_3; replace p13 := eq_true p13; replace q13 := eq_true q13) | (go_at_call 104; (with_reducible refine (spec_IsLocal.calls ((rd_T95 l0 ((rd_T132 l1_1 (ji6)).f0)).f0) ((rd_T95 l0 ((rd_T132 l1_1 (ji6)).f0)).f1) ((rd_T95 l0 ((rd_T132 l1_1 (ji6)).f0)).f2) ((rd_T95 l0 ((rd_T132 l1_1 (ji6)).f0)).f3) true _ A11.out).mono ?_); rintro e w17 ⟨rfl, hb⟩; replace BK11 := kb BK11 hb; replace HB := hbs hb; clear hb; obtain ⟨_, _, _, _, _, _⟩ := box3 BK11) | (refine gL 138 (some 27) Tryz.func138 #[.slice (some ad13) l0.length c0, .agg #[.int .i64 a1_0, .slice (some ad12) l1_1.length c1_1, .slice A1_2 l1_2.length c1_2]] ?_; refine (spec_l13Splits.calls k _ _ l0 a1_0 _ _ l1_1 _ _ l1_2 true _ (cb HR0) HC0.out (cb HR1_1) HC1_1.out (cb HR1_2) HC1_2.out A13.out).mono ?_; rintro e w19 ⟨rfl, hb⟩; refine ⟨_, rfl, ?_⟩; replace BK11 := kb BK11 hb; replace HB := hbs hb; clear hb; obtain ⟨_, _, _, _, _, _⟩ := box3 BK11))
    go_ret
    exact ⟨by first | rfl | (simp [errW_none, errW_some] <;> rfl) | (simp only [← hji6]; first | rfl | (simp [errW_none, errW_some] <;> rfl)) | (simp [*, errW_none, errW_some] <;> rfl), bels⟩
   ·replace c14 := Bool.eq_false_iff.mpr c14; subst c14; rw [if_neg (by decide)] at H; obtain rfl := oI H
    go_enter Tryz.func105, Tryz.ntmps105
    go_wp2_with (first | ((with_reducible refine gate_dst (N := 3) rfl ?_); (try (refine gate_guard (by rfl) ?_; dsimp only)); refine box_event ?hg (N := 3) ?hd (cs := #[.int .i64 a1_0, .slice A1_1 l1_1.length c1_1, .slice A1_2 l1_2.length c1_2]) (t := 59) ?hr ?_; (case hd => rfl); (case hg => rfl); (case hr => exact gs); intro gb11 hg w21 hbox hb; have BK11 := Aside0.mk (hbox); have GW11 := Aside0.mk (gwe hg : w.heap.size ≤ _); have GE11 := GW11; replace HB := hbs hb; clear hb hbox hg; obtain ⟨_, _, _, _, _, _⟩ := box3 BK11; have p12 : 0 ≤ ((ji6) : Int) := pq0; have q12 : (ji6) < (l1_1.length : Int) := pq0; obtain ⟨ad12, e12, hx12_0, hx12_1, hx12_2⟩ := at_T132 HR1_1.out (ji6) p12 q12; cases e12; replace hx12_0 := hxb hx12_0; replace hx12_1 := hxb hx12_1; replace hx12_2 := hxb hx12_2; replace p12 := eq_true p12; replace q12 := eq_true q12; have p13 : 0 ≤ (((rd_T132 l1_1 (ji6)).f0) : Int) := pq0; have q13 : ((rd_T132 l1_1 (ji6)).f0) < (l0.length : Int) := pq0; obtain ⟨ad13, e13, hx13_0, hx13_1, hx13_2, hx13_3⟩ := at_T95 HR0.out ((rd_T132 l1_1 (ji6)).f0) p13 q13; cases e13; replace hx13_0 := hxb hx13_0; replace hx13_1 := hxb hx13_1; replace hx13_2 := hxb hx13_2; replace hx13_3 := hxb hx13_3; replace p13 := eq_true p13; replace q13 := eq_true q13) | (go_at_call 104; (with_reducible refine (spec_IsLocal.calls ((rd_T95 l0 ((rd_T132 l1_1 (ji6)).f0)).f0) ((rd_T95 l0 ((rd_T132 l1_1 (ji6)).f0)).f1) ((rd_T95 l0 ((rd_T132 l1_1 (ji6)).f0)).f2) ((rd_T95 l0 ((rd_T132 l1_1 (ji6)).f0)).f3) true _ A11.out).mono ?_); rintro e w23 ⟨rfl, hb⟩; replace BK11 := kb BK11 hb; replace HB := hbs hb; clear hb; obtain ⟨_, _, _, _, _, _⟩ := box3 BK11) | (refine gL 138 (some 27) Tryz.func138 #[.slice (some ad13) l0.length c0, .agg #[.int .i64 a1_0, .slice (some ad12) l1_1.length c1_1, .slice A1_2 l1_2.length c1_2]] ?_; refine (spec_l13Splits.calls k _ _ l0 a1_0 _ _ l1_1 _ _ l1_2 false _ (cb HR0) HC0.out (cb HR1_1) HC1_1.out (cb HR1_2) HC1_2.out A13.out).mono ?_; rintro e w25 ⟨rfl, hb⟩; refine ⟨_, rfl, ?_⟩; replace BK11 := kb BK11 hb; replace HB := hbs hb; clear hb))
    go_ret
    exact ⟨by first | rfl | (simp [errW_none, errW_some] <;> rfl) | (simp only [← hji6]; first | rfl | (simp [errW_none, errW_some] <;> rfl)) | (simp [*, errW_none, errW_some] <;> rfl), bels⟩
  ·replace c12 := Bool.eq_false_iff.mpr c12; subst c12; rw [if_neg (by decide)] at H; obtain rfl := oI H
   go_enter Tryz.func105, Tryz.ntmps105
   go_wp2_with (first | ((with_reducible refine gate_dst (N := 3) rfl ?_); (try (refine gate_guard (by rfl) ?_; dsimp only)); refine box_event ?hg (N := 3) ?hd (cs := #[.int .i64 a1_0, .slice A1_1 l1_1.length c1_1, .slice A1_2 l1_2.length c1_2]) (t := 59) ?hr ?_; (case hd => rfl); (case hg => rfl); (case hr => exact gs); intro gb11 hg w26 hbox hb; have BK11 := Aside0.mk (hbox); have GW11 := Aside0.mk (gwe hg : w.heap.size ≤ _); have GE11 := GW11; replace HB := hbs hb; clear hb hbox hg; obtain ⟨_, _, _, _, _, _⟩ := box3 BK11; have p12 : 0 ≤ ((ji6) : Int) := pq0; have q12 : (ji6) < (l1_1.length : Int) := pq0; obtain ⟨ad12, e12, hx12_0, hx12_1, hx12_2⟩ := at_T132 HR1_1.out (ji6) p12 q12; cases e12; replace hx12_0 := hxb hx12_0; replace hx12_1 := hxb hx12_1; replace hx12_2 := hxb hx12_2; replace p12 := eq_true p12; replace q12 := eq_true q12; have p13 : 0 ≤ (((rd_T132 l1_1 (ji6)).f0) : Int) := pq0; have q13 : ((rd_T132 l1_1 (ji6)).f0) < (l0.length : Int) := pq0; obtain ⟨ad13, e13, hx13_0, hx13_1, hx13_2, hx13_3⟩ := at_T95 HR0.out ((rd_T132 l1_1 (ji6)).f0) p13 q13; cases e13; replace hx13_0 := hxb hx13_0; replace hx13_1 := hxb hx13_1; replace hx13_2 := hxb hx13_2; replace hx13_3 := hxb hx13_3; replace p13 := eq_true p13; replace q13 := eq_true q13) | (go_at_call 104; (with_reducible refine (spec_IsLocal.calls ((rd_T95 l0 ((rd_T132 l1_1 (ji6)).f0)).f0) ((rd_T95 l0 ((rd_T132 l1_1 (ji6)).f0)).f1) ((rd_T95 l0 ((rd_T132 l1_1 (ji6)).f0)).f2) ((rd_T95 l0 ((rd_T132 l1_1 (ji6)).f0)).f3) false _ A11.out).mono ?_); rintro e w28 ⟨rfl, hb⟩; replace BK11 := kb BK11 hb; replace HB := hbs hb; clear hb))
   go_ret
   exact ⟨by first | rfl | (simp [errW_none, errW_some] <;> rfl) | (simp only [← hji6]; first | rfl | (simp [errW_none, errW_some] <;> rfl)) | (simp [*, errW_none, errW_some] <;> rfl), bels⟩

/-! ### spec_l30Can: function 62 -/
def spec_l30Can.j0 : Nat → Int → Bool → List (S95) → List (S59) → List Int → Int → Int → Int → List (S132) → List Int → Option (Bool)
 | 0, _, _, _, _, _, _, _, _, _, _ => none
 | k + 1, x1, x23, x12000, x12001, x12002, x12003, x12004, x14000, x14001, x14002 => if x23 = true then (some false) else ((spec_l30Next.f x12000 x12001 x12002 x12003 x12004 x1).bind fun bt14 => ((spec_IsLocal.f bt14.1 bt14.2.1 bt14.2.2.1 bt14.2.2.2).bind fun t19 => (if t19 = true then ((spec_l13Local.f k x12000 x14000 x14001 x14002).bind fun t20 => (some t20)) else (if bt14.1 = 16 then (some ((x14001.length : Int) == 1)) else (some true)))))
def spec_l30Can.f (k : Nat) (l0_0 : List (S95)) (l0_1 : List (S59)) (l0_2 : List Int) (a0_3 : Int) (a0_4 : Int) (a1 : Int) : Option (Bool) := if 0 ≤ a1 then (if a1 < (l0_1.length : Int) then (if (((rd_T59 l0_1 a1).f1).length : Int) = 0 then (spec_l30Can.j0 k a1 true l0_0 l0_1 l0_2 a0_3 a0_4 ((rd_T59 l0_1 a1).f0) ((rd_T59 l0_1 a1).f1) ((rd_T59 l0_1 a1).f2)) else (spec_l30Can.j0 k a1 ((Go.bits .and .i64 (shr .i64 a0_3 a1) 1) == 1) l0_0 l0_1 l0_2 a0_3 a0_4 ((rd_T59 l0_1 a1).f0) ((rd_T59 l0_1 a1).f1) ((rd_T59 l0_1 a1).f2))) else (none)) else (none)
set_option maxHeartbeats 8000000 in
set_option maxRecDepth 100000 in
theorem spec_l30Can.calls (k : Nat) (A0_0 : Option Addr) (c0_0 : Nat) (l0_0 : List (S95)) (A0_1 : Option Addr) (c0_1 : Nat) (l0_1 : List (S59)) (A0_2 : Option Addr) (c0_2 : Nat) (l0_2 : List Int) (a0_3 : Int) (a0_4 : Int) (a1 : Int) (r : Bool) (w : World) (hr0_0 : Kd.C k95 w A0_0 l0_0.length l0_0) (hc0_0 : l0_0.length ≤ c0_0) (hr0_1 : Kd.C k59 w A0_1 l0_1.length l0_1) (hc0_1 : l0_1.length ≤ c0_1) (hr0_2 : Kd.C (Kd.int .i64) w A0_2 l0_2.length l0_2) (hc0_2 : l0_2.length ≤ c0_2) (h : spec_l30Can.f k l0_0 l0_1 l0_2 a0_3 a0_4 a1 = some r) :
  Calls Tryz.prog 62 #[.agg #[.slice A0_0 l0_0.length c0_0, .slice A0_1 l0_1.length c0_1, .slice A0_2 l0_2.length c0_2, .int .i64 a0_3, .int .i64 a0_4], .int .i64 a1] w fun e w' => e = .returned (.bool r) ∧ Below w.heap.size w w' := by
 have hu33 := Tryz.underlying33; have hu59 := Tryz.underlying59; have hu95 := Tryz.underlying95; have HR0_0 := Aside0.mk hr0_0; have HC0_0 := Aside0.mk hc0_0; clear hr0_0 hc0_0; have HR0_1 := Aside0.mk hr0_1; have HC0_1 := Aside0.mk hc0_1; clear hr0_1 hc0_1; have HR0_2 := Aside0.mk hr0_2; have HC0_2 := Aside0.mk hc0_2; clear hr0_2 hc0_2; have HB := Aside0.mk (Below.refl w.heap.size w)
 have H : (if 0 ≤ a1 then (if a1 < (l0_1.length : Int) then (if (((rd_T59 l0_1 a1).f1).length : Int) = 0 then (spec_l30Can.j0 k a1 true l0_0 l0_1 l0_2 a0_3 a0_4 ((rd_T59 l0_1 a1).f0) ((rd_T59 l0_1 a1).f1) ((rd_T59 l0_1 a1).f2)) else (spec_l30Can.j0 k a1 ((Go.bits .and .i64 (shr .i64 a0_3 a1) 1) == 1) l0_0 l0_1 l0_2 a0_3 a0_4 ((rd_T59 l0_1 a1).f0) ((rd_T59 l0_1 a1).f1) ((rd_T59 l0_1 a1).f2))) else (none)) else (none)) = some r := h
 clear h
 obtain ⟨c3, H⟩ := ifS H
 have c3b0 := decide_eq_true c3
 clear c3
 obtain ⟨c4, H⟩ := ifS H
 have c4b0 := decide_eq_true c4
 clear c4; have HC5 := Aside0.mk H; clear H
 go_enter Tryz.func62, Tryz.ntmps62
 go_upto_region 2 with (first | ((with_reducible refine gate_dst (N := 2) rfl ?_); (try (refine gate_guard (by rfl) ?_; dsimp only)); refine box_event ?hg (N := 2) ?hd (cs := #[.slice A0_0 l0_0.length c0_0, .slice A0_1 l0_1.length c0_1, .slice A0_2 l0_2.length c0_2, .int .i64 a0_3, .int .i64 a0_4]) (t := 33) ?hr ?_; (case hd => rfl); (case hg => rfl); (case hr => exact gs); intro gb11 hg w6 hbox hb; have BK11 := Aside0.mk (hbox); have GW11 := Aside0.mk (gwe hg : w.heap.size ≤ _); have GE11 := GW11; replace HB := hbs hb; clear hb hbox hg; obtain ⟨_, _, _, _, _, _, _, _, _, _⟩ := box5 BK11; have p12 : 0 ≤ (a1 : Int) := pq0; have q12 : a1 < (l0_1.length : Int) := pq0; obtain ⟨ad12, A12_1, c12_1, A12_2, c12_2, e12, hx12_0, hx12_1, hx12_2, hl12_1, hi12_1, hl12_2, hi12_2⟩ := at_T59 HR0_1.out a1 p12 q12; cases e12; replace hx12_0 := hxb hx12_0; replace hx12_1 := hxb hx12_1; replace hx12_2 := hxb hx12_2; have HR12_1 := Aside0.mk hi12_1; have HC12_1 := Aside0.mk hl12_1; clear hi12_1 hl12_1; have HR12_2 := Aside0.mk hi12_2; have HC12_2 := Aside0.mk hl12_2; clear hi12_2 hl12_2; replace p12 := eq_true p12; replace q12 := eq_true q12) | ((with_reducible refine gate_dst (N := 5) rfl ?_); (try (refine gate_guard (by rfl) ?_; dsimp only)); refine box_event ?hg (N := 5) ?hd (cs := #[.int .i64 0, .slice none 0 0, .slice none 0 0]) (t := 59) ?hr ?_; (case hd => rfl); (case hg => rfl); (case hr => exact gs); intro gb13 hg w8 hbox hb; have BK13 := Aside0.mk (hbox); have GW13 := Aside0.mk (gwe hg : w.heap.size ≤ _); have GE13 := GW13; have NB11_13 := Aside0.mk (nbl hg BK11); have NB13_11 := Aside0.mk (nbg hg BK11); replace BK11 := kb BK11 hb; replace HB := hbs hb; clear hb hbox hg; have hnb9 := NB13_11.out; have hnc9 := NB11_13.out; obtain ⟨_, _, _, _, _, _⟩ := box3 BK13))
 (try simp only [Act.put, List.setIfInBounds_toArray, List.set_cons_zero, List.set_cons_succ])
 go_cut [23] (fun v23 wc => ∃ (kq : Nat) (x23_4 : Bool), v23 = .bool x23_4 ∧ Aside0 (spec_l30Can.j0 kq a1 x23_4 l0_0 l0_1 l0_2 a0_3 a0_4 ((rd_T59 l0_1 a1).f0) ((rd_T59 l0_1 a1).f1) ((rd_T59 l0_1 a1).f2) = some r) ∧ Aside0 (kq ≤ k) ∧ Aside0 (wc.heap[gb11]? = some (.cells #[(.slice A0_0 l0_0.length c0_0), (.slice (some ad12) l0_1.length c0_1), (.slice A0_2 l0_2.length c0_2), .int .i64 a0_3, .int .i64 a0_4] 33 (0, 0))) ∧ Aside0 (wc.heap[gb13]? = some (.cells #[.int .i64 ((rd_T59 l0_1 a1).f0), (.slice A12_1 ((rd_T59 l0_1 a1).f1).length c12_1), (.slice A12_2 ((rd_T59 l0_1 a1).f2).length c12_2)] 59 (0, 0))) ∧ Aside0 (Below w.heap.size w wc))
 case first =>
  have H := HC5.out; clear HC5
  by_cases c11 : (((rd_T59 l0_1 a1).f1).length : Int) = 0
  ·rw [if_pos c11] at H
   have c11b0 : ((((rd_T59 l0_1 a1).f1).length : Int) == 0) = true := beq_iff_eq.mpr c11
   have c11b1 : ((((rd_T59 l0_1 a1).f1).length : Int) != 0) = false := bne_eq_false_iff_eq.mpr c11
   clear c11
   (first | rw [c11b0] | (simp only [i64_w, i32_w]; rw [c11b0]) | skip)
   have H' := Aside0.mk H
   clear H; have hnb12 := NB13_11.out; have hnc12 := NB11_13.out; obtain ⟨_, _, _, _, _, _⟩ := box3 BK13
   go_wp2
   go_meet
   case rel => exact ⟨_, (true), rfx, H', ⟨omx⟩, ⟨bk⟩, ⟨bkp⟩, ⟨bels⟩⟩
  ·rw [if_neg c11] at H
   have c11b0 : ((((rd_T59 l0_1 a1).f1).length : Int) == 0) = false := beq_eq_false_iff_ne.mpr c11
   have c11b1 : ((((rd_T59 l0_1 a1).f1).length : Int) != 0) = true := bne_iff_ne.mpr c11
   have c11b2 : ¬ (((rd_T59 l0_1 a1).f1) = []) := fun h_ => c11 (by rw [h_]; rfl)
   (first | rw [c11b0] | (simp only [i64_w, i32_w]; rw [c11b0]) | skip)
   have c14b0 := eq_true (pq0 : 0 ≤ a1)
   obtain ⟨ji15, hji15⟩ : ∃ j_ : Int, (shr .i64 a0_3 a1) = j_ := ⟨_, rfl⟩
   (first | rw [hji15] at H | simp only [hji15] at H)
   have hji15_ : (a0_3 / 2 ^ min a1.toNat 64) = ji15 := hji15
   have hji15z : a1 ≤ 64 → (a0_3 / 2 ^ a1.toNat) = ji15 := shr_small hji15
   have H' := Aside0.mk H
   clear H; have hnb16 := NB13_11.out; have hnc16 := NB11_13.out; obtain ⟨_, _, _, _, _, _⟩ := box3 BK13; obtain ⟨_, _, _, _, _, _, _, _, _, _⟩ := box5 BK11
   go_wp2
   go_meet
   case rel => exact ⟨_, (((Go.bits .and .i64 (ji15) 1) == 1)), (by first | rfl | (simp; done) | (simp only [← hji15] <;> (first | rfl | simp)) | (simp [*]; done)), H', ⟨omx⟩, ⟨bk⟩, ⟨bkp⟩, ⟨bels⟩⟩
 case rest =>
  clear HC5
  try clear c1
  try clear p1
  try clear q1
  try clear hx1
  try clear p2
  try clear c3
  try clear c3b0
  try clear c4
  try clear c4b0
  try clear c6
  try clear c9
  try clear c11
  try clear c11b0
  try clear c11b1
  try clear c11b2
  try clear c12
  try clear p12
  try clear q12
  try clear hx12
  try clear c14
  try clear c14b0
  try clear c16
  try clear hx12_0
  try clear hx12_1
  try clear hx12_2
  try clear p12
  try clear q12
  obtain ⟨kq, x23_4, rfl, HA, HJ4, BK11, BK13, HB⟩ := hcut
  cases kq with
  | zero => exact absurd HA.out (by simp [spec_l30Can.j0])
  | succ kj4 =>
   have H := HA.out; clear HA
   simp only [spec_l30Can.j0] at H
   by_cases c19 : x23_4 = true
   ·subst c19; rw [if_pos rfl] at H; obtain rfl := oI H
    go_wp2
    go_ret
    exact ⟨rfe, bels⟩
   ·replace c19 := Bool.eq_false_iff.mpr c19; subst c19; rw [if_neg (by decide)] at H; obtain ⟨⟨t14, t15, t16, t17⟩, A20, H⟩ := bnd H; (try dsimp only at H); obtain ⟨t19, A21, H⟩ := bnd H; (try dsimp only at H)
    by_cases c22 : t19 = true
    ·subst c22; rw [if_pos rfl] at H; obtain ⟨t20, A23, H⟩ := bnd H; (try dsimp only at H); obtain rfl := oI H; have hnb24 := NB11_13.out; have hnc24 := NB13_11.out; obtain ⟨_, _, _, _, _, _, _, _, _, _⟩ := box5 BK11
     go_wp2_with (first | (refine gL 103 (some 26) Tryz.func103 #[.agg #[.slice A0_0 l0_0.length c0_0, .slice (some ad12) l0_1.length c0_1, .slice A0_2 l0_2.length c0_2, .int .i64 a0_3, .int .i64 a0_4], .int .i64 a1] ?_; refine (spec_l30Next.calls _ _ l0_0 _ _ l0_1 _ _ l0_2 a0_3 a0_4 a1 t14 t15 t16 t17 _ (cb HR0_0) HC0_0.out (cb HR0_1) HC0_1.out (cb HR0_2) HC0_2.out A20.out).mono ?_; rintro e w26 ⟨rfl, hb⟩; refine ⟨_, rfl, ?_⟩; replace BK11 := kb BK11 hb; replace BK13 := kb BK13 hb; replace HB := hbs hb; clear hb) | ((with_reducible refine gate_dst (N := 6) rfl ?_); (try (refine gate_guard (by rfl) ?_; dsimp only)); refine box_event ?hg (N := 6) ?hd (cs := #[.int .i64 0, .int .i64 0, .int .i64 0, .int .i64 0]) (t := 95) ?hr ?_; (case hd => rfl); (case hg => rfl); (case hr => exact gs); intro gb18 hg w27 hbox hb; have BK18 := Aside0.mk (hbox); have GW18 := Aside0.mk (gwe hg : w.heap.size ≤ _); have GE18 := GW18; have NB11_18 := Aside0.mk (nbl hg BK11); have NB18_11 := Aside0.mk (nbg hg BK11); have NB13_18 := Aside0.mk (nbl hg BK13); have NB18_13 := Aside0.mk (nbg hg BK13); replace BK11 := kb BK11 hb; replace BK13 := kb BK13 hb; replace HB := hbs hb; clear hb hbox hg; have hnb28 := NB18_11.out; have hnc28 := NB11_18.out; have hnb29 := NB18_13.out; have hnc29 := NB13_18.out; obtain ⟨_, _, _, _, _, _, _, _⟩ := box4 BK18) | (refine gL 104 (some 28) Tryz.func104 #[.agg #[.int .i64 t14, .int .i64 t15, .int .i64 t16, .int .i64 t17]] ?_; (with_reducible refine (spec_IsLocal.calls t14 t15 t16 t17 true _ A21.out).mono ?_); rintro e w31 ⟨rfl, hb⟩; refine ⟨_, rfl, ?_⟩; replace BK11 := kbb BK11 hb; replace BK13 := kbb BK13 hb; replace BK18 := Aside0.mk (blk_below (g := gb18) (o := .cells #[.int .i64 t14, .int .i64 t15, .int .i64 t16, .int .i64 t17] 95 (0, 0)) (bkp) hb); replace HB := hbs hb; clear hb; obtain ⟨_, _, _, _, _, _, _, _, _, _⟩ := box5 BK11; obtain ⟨_, _, _, _, _, _⟩ := box3 BK13) | (refine gL 105 (some 32) Tryz.func105 #[.slice A0_0 l0_0.length c0_0, .agg #[.int .i64 ((rd_T59 l0_1 a1).f0), .slice A12_1 ((rd_T59 l0_1 a1).f1).length c12_1, .slice A12_2 ((rd_T59 l0_1 a1).f2).length c12_2]] ?_; refine (spec_l13Local.calls kj4 _ _ l0_0 ((rd_T59 l0_1 a1).f0) _ _ ((rd_T59 l0_1 a1).f1) _ _ ((rd_T59 l0_1 a1).f2) t20 _ (cb HR0_0) HC0_0.out (cb HR12_1) HC12_1.out (cb HR12_2) HC12_2.out A23.out).mono ?_; rintro e w34 ⟨rfl, hb⟩; refine ⟨_, rfl, ?_⟩; replace BK11 := kb BK11 hb; replace BK13 := kb BK13 hb; replace BK18 := kb BK18 hb; replace HB := hbs hb; clear hb))
     go_ret
     exact ⟨rfe, bels⟩
    ·replace c22 := Bool.eq_false_iff.mpr c22; subst c22; rw [if_neg (by decide)] at H
     by_cases c35 : t14 = 16
     ·rw [if_pos c35] at H
      have c35b0 : (t14 == 16) = true := beq_iff_eq.mpr c35
      have c35b1 : (t14 != 16) = false := bne_eq_false_iff_eq.mpr c35
      clear c35; obtain rfl := oI H; have hnb36 := NB11_13.out; have hnc36 := NB13_11.out; obtain ⟨_, _, _, _, _, _, _, _, _, _⟩ := box5 BK11
      go_wp2_with (first | (refine gL 103 (some 26) Tryz.func103 #[.agg #[.slice A0_0 l0_0.length c0_0, .slice (some ad12) l0_1.length c0_1, .slice A0_2 l0_2.length c0_2, .int .i64 a0_3, .int .i64 a0_4], .int .i64 a1] ?_; refine (spec_l30Next.calls _ _ l0_0 _ _ l0_1 _ _ l0_2 a0_3 a0_4 a1 t14 t15 t16 t17 _ (cb HR0_0) HC0_0.out (cb HR0_1) HC0_1.out (cb HR0_2) HC0_2.out A20.out).mono ?_; rintro e w38 ⟨rfl, hb⟩; refine ⟨_, rfl, ?_⟩; replace BK11 := kb BK11 hb; replace BK13 := kb BK13 hb; replace HB := hbs hb; clear hb) | ((with_reducible refine gate_dst (N := 6) rfl ?_); (try (refine gate_guard (by rfl) ?_; dsimp only)); refine box_event ?hg (N := 6) ?hd (cs := #[.int .i64 0, .int .i64 0, .int .i64 0, .int .i64 0]) (t := 95) ?hr ?_; (case hd => rfl); (case hg => rfl); (case hr => exact gs); intro gb18 hg w39 hbox hb; have BK18 := Aside0.mk (hbox); have GW18 := Aside0.mk (gwe hg : w.heap.size ≤ _); have GE18 := GW18; have NB11_18 := Aside0.mk (nbl hg BK11); have NB18_11 := Aside0.mk (nbg hg BK11); have NB13_18 := Aside0.mk (nbl hg BK13); have NB18_13 := Aside0.mk (nbg hg BK13); replace BK11 := kb BK11 hb; replace BK13 := kb BK13 hb; replace HB := hbs hb; clear hb hbox hg; have hnb40 := NB18_11.out; have hnc40 := NB11_18.out; have hnb41 := NB18_13.out; have hnc41 := NB13_18.out; obtain ⟨_, _, _, _, _, _, _, _⟩ := box4 BK18) | (refine gL 104 (some 28) Tryz.func104 #[.agg #[.int .i64 t14, .int .i64 t15, .int .i64 t16, .int .i64 t17]] ?_; (with_reducible refine (spec_IsLocal.calls t14 t15 t16 t17 false _ A21.out).mono ?_); rintro e w43 ⟨rfl, hb⟩; refine ⟨_, rfl, ?_⟩; replace BK11 := kbb BK11 hb; replace BK13 := kbb BK13 hb; replace BK18 := Aside0.mk (blk_below (g := gb18) (o := .cells #[.int .i64 t14, .int .i64 t15, .int .i64 t16, .int .i64 t17] 95 (0, 0)) (bkp) hb); replace HB := hbs hb; clear hb; obtain ⟨_, _, _, _, _, _, _, _⟩ := box4 BK18; obtain ⟨_, _, _, _, _, _⟩ := box3 BK13))
      go_ret
      exact ⟨rfe, bels⟩
     ·rw [if_neg c35] at H
      have c35b0 : (t14 == 16) = false := beq_eq_false_iff_ne.mpr c35
      have c35b1 : (t14 != 16) = true := bne_iff_ne.mpr c35
      obtain rfl := oI H; have hnb46 := NB11_13.out; have hnc46 := NB13_11.out; obtain ⟨_, _, _, _, _, _, _, _, _, _⟩ := box5 BK11
      go_wp2_with (first | (refine gL 103 (some 26) Tryz.func103 #[.agg #[.slice A0_0 l0_0.length c0_0, .slice (some ad12) l0_1.length c0_1, .slice A0_2 l0_2.length c0_2, .int .i64 a0_3, .int .i64 a0_4], .int .i64 a1] ?_; refine (spec_l30Next.calls _ _ l0_0 _ _ l0_1 _ _ l0_2 a0_3 a0_4 a1 t14 t15 t16 t17 _ (cb HR0_0) HC0_0.out (cb HR0_1) HC0_1.out (cb HR0_2) HC0_2.out A20.out).mono ?_; rintro e w48 ⟨rfl, hb⟩; refine ⟨_, rfl, ?_⟩; replace BK11 := kb BK11 hb; replace BK13 := kb BK13 hb; replace HB := hbs hb; clear hb) | ((with_reducible refine gate_dst (N := 6) rfl ?_); (try (refine gate_guard (by rfl) ?_; dsimp only)); refine box_event ?hg (N := 6) ?hd (cs := #[.int .i64 0, .int .i64 0, .int .i64 0, .int .i64 0]) (t := 95) ?hr ?_; (case hd => rfl); (case hg => rfl); (case hr => exact gs); intro gb18 hg w49 hbox hb; have BK18 := Aside0.mk (hbox); have GW18 := Aside0.mk (gwe hg : w.heap.size ≤ _); have GE18 := GW18; have NB11_18 := Aside0.mk (nbl hg BK11); have NB18_11 := Aside0.mk (nbg hg BK11); have NB13_18 := Aside0.mk (nbl hg BK13); have NB18_13 := Aside0.mk (nbg hg BK13); replace BK11 := kb BK11 hb; replace BK13 := kb BK13 hb; replace HB := hbs hb; clear hb hbox hg; have hnb50 := NB18_11.out; have hnc50 := NB11_18.out; have hnb51 := NB18_13.out; have hnc51 := NB13_18.out; obtain ⟨_, _, _, _, _, _, _, _⟩ := box4 BK18) | (refine gL 104 (some 28) Tryz.func104 #[.agg #[.int .i64 t14, .int .i64 t15, .int .i64 t16, .int .i64 t17]] ?_; (with_reducible refine (spec_IsLocal.calls t14 t15 t16 t17 false _ A21.out).mono ?_); rintro e w53 ⟨rfl, hb⟩; refine ⟨_, rfl, ?_⟩; replace BK11 := kbb BK11 hb; replace BK13 := kbb BK13 hb; replace BK18 := Aside0.mk (blk_below (g := gb18) (o := .cells #[.int .i64 t14, .int .i64 t15, .int .i64 t16, .int .i64 t17] 95 (0, 0)) (bkp) hb); replace HB := hbs hb; clear hb; obtain ⟨_, _, _, _, _, _, _, _⟩ := box4 BK18))
      go_ret
      exact ⟨rfe, bels⟩

/-! ### spec_IsStuck: function 28 -/
mutual
def spec_IsStuck.j0 : Nat → Bool → List (S95) → List (S59) → List Int → Int → Int → Option (Bool)
 | 0, _, _, _, _, _, _ => none
 | k + 1, x10, x12000, x12001, x12002, x12003, x12004 => if x10 = true then (some false) else (spec_IsStuck.l0 k 0 x12000 x12001 x12002 x12003 x12004)
def spec_IsStuck.l0 : Nat → Int → List (S95) → List (S59) → List Int → Int → Int → Option (Bool)
 | 0, _, _, _, _, _, _ => none
 | k + 1, x3, x12000, x12001, x12002, x12003, x12004 => if x3 < (x12001.length : Int) then ((spec_l30Can.f k x12000 x12001 x12002 x12003 x12004 x3).bind fun t14 => (if t14 = true then (some false) else (spec_IsStuck.l0 k (wrap64 (x3 + 1)) x12000 x12001 x12002 x12003 x12004))) else (some true)
end
def spec_IsStuck.f (k : Nat) (l0_0 : List (S95)) (l0_1 : List (S59)) (l0_2 : List Int) (a0_3 : Int) (a0_4 : Int) : Option (Bool) := (spec_BlockOk.f k l0_0 l0_1 l0_2 a0_3 a0_4).bind fun t12 => (if t12 = true then ((spec_l29Ended.f k l0_0 l0_1 l0_2 a0_3 a0_4).bind fun t13 => (spec_IsStuck.j0 k t13 l0_0 l0_1 l0_2 a0_3 a0_4)) else (spec_IsStuck.j0 k true l0_0 l0_1 l0_2 a0_3 a0_4))
set_option maxHeartbeats 8000000 in
set_option maxRecDepth 100000 in
theorem spec_IsStuck.calls (k : Nat) (A0_0 : Option Addr) (c0_0 : Nat) (l0_0 : List (S95)) (A0_1 : Option Addr) (c0_1 : Nat) (l0_1 : List (S59)) (A0_2 : Option Addr) (c0_2 : Nat) (l0_2 : List Int) (a0_3 : Int) (a0_4 : Int) (r : Bool) (w : World) (hr0_0 : Kd.C k95 w A0_0 l0_0.length l0_0) (hc0_0 : l0_0.length ≤ c0_0) (hr0_1 : Kd.C k59 w A0_1 l0_1.length l0_1) (hc0_1 : l0_1.length ≤ c0_1) (hr0_2 : Kd.C (Kd.int .i64) w A0_2 l0_2.length l0_2) (hc0_2 : l0_2.length ≤ c0_2) (h : spec_IsStuck.f k l0_0 l0_1 l0_2 a0_3 a0_4 = some r) :
  Calls Tryz.prog 28 #[.agg #[.slice A0_0 l0_0.length c0_0, .slice A0_1 l0_1.length c0_1, .slice A0_2 l0_2.length c0_2, .int .i64 a0_3, .int .i64 a0_4]] w fun e w' => e = .returned (.bool r) ∧ Below w.heap.size w w' := by
 have hu33 := Tryz.underlying33; have HR0_0 := Aside0.mk hr0_0; have HC0_0 := Aside0.mk hc0_0; clear hr0_0 hc0_0; have HR0_1 := Aside0.mk hr0_1; have HC0_1 := Aside0.mk hc0_1; clear hr0_1 hc0_1; have HR0_2 := Aside0.mk hr0_2; have HC0_2 := Aside0.mk hc0_2; clear hr0_2 hc0_2; have HB := Aside0.mk (Below.refl w.heap.size w)
 have H : ((spec_BlockOk.f k l0_0 l0_1 l0_2 a0_3 a0_4).bind fun t12 => (if t12 = true then ((spec_l29Ended.f k l0_0 l0_1 l0_2 a0_3 a0_4).bind fun t13 => (spec_IsStuck.j0 k t13 l0_0 l0_1 l0_2 a0_3 a0_4)) else (spec_IsStuck.j0 k true l0_0 l0_1 l0_2 a0_3 a0_4))) = some r := h
 clear h; have HC2 := Aside0.mk H; clear H
 go_enter Tryz.func28, Tryz.ntmps28
 go_upto_region 1 with (first | (refine bxe 1 #[.slice A0_0 l0_0.length c0_0, .slice A0_1 l0_1.length c0_1, .slice A0_2 l0_2.length c0_2, .int .i64 a0_3, .int .i64 a0_4] 33 ?_; intro gb11 hg w3 hbox hb; have BK11 := Aside0.mk (hbox); have GW11 := Aside0.mk (gwe hg : w.heap.size ≤ _); have GE11 := GW11; replace HB := hbs hb; clear hb hbox hg))
 (try simp only [Act.put, List.setIfInBounds_toArray, List.set_cons_zero, List.set_cons_succ])
 go_cut [10] (fun v10 wc => ∃ (kq : Nat) (x10_1 : Bool), v10 = .bool x10_1 ∧ Aside0 (spec_IsStuck.j0 kq x10_1 l0_0 l0_1 l0_2 a0_3 a0_4 = some r) ∧ Aside0 (kq ≤ k) ∧ Aside0 (wc.heap[gb11]? = some (.cells #[(.slice A0_0 l0_0.length c0_0), (.slice A0_1 l0_1.length c0_1), (.slice A0_2 l0_2.length c0_2), .int .i64 a0_3, .int .i64 a0_4] 33 (0, 0))) ∧ Aside0 (Below w.heap.size w wc))
 case first =>
  have H := HC2.out; clear HC2; obtain ⟨t12, A4, H⟩ := bnd H; (try dsimp only at H)
  by_cases c5 : t12 = true
  ·subst c5; rw [if_pos rfl] at H; obtain ⟨t13, A6, H⟩ := bnd H; (try dsimp only at H)
   have H' := Aside0.mk H
   clear H; obtain ⟨_, _, _, _, _, _, _, _, _, _⟩ := box5 BK11
   go_wp2_with (first | (refine gL 26 (some 5) Tryz.func26 #[.agg #[.slice A0_0 l0_0.length c0_0, .slice A0_1 l0_1.length c0_1, .slice A0_2 l0_2.length c0_2, .int .i64 a0_3, .int .i64 a0_4]] ?_; refine (spec_BlockOk.calls k _ _ l0_0 _ _ l0_1 _ _ l0_2 a0_3 a0_4 true _ (cb HR0_0) HC0_0.out (cb HR0_1) HC0_1.out (cb HR0_2) HC0_2.out A4.out).mono ?_; rintro e w8 ⟨rfl, hb⟩; refine ⟨_, rfl, ?_⟩; replace BK11 := kb BK11 hb; replace HB := hbs hb; clear hb; obtain ⟨_, _, _, _, _, _, _, _, _, _⟩ := box5 BK11) | (go_at_call 27; refine (spec_l29Ended.calls k _ _ l0_0 _ _ l0_1 _ _ l0_2 a0_3 a0_4 t13 _ (cb HR0_0) HC0_0.out (cb HR0_1) HC0_1.out (cb HR0_2) HC0_2.out A6.out).mono ?_; rintro e w10 ⟨rfl, hb⟩; replace BK11 := kb BK11 hb; replace HB := hbs hb; clear hb))
   go_meet
   case rel => exact ⟨_, (t13), rfx, H', ⟨omx⟩, ⟨bk⟩, ⟨bels⟩⟩
  ·replace c5 := Bool.eq_false_iff.mpr c5; subst c5; rw [if_neg (by decide)] at H
   have H' := Aside0.mk H
   clear H; obtain ⟨_, _, _, _, _, _, _, _, _, _⟩ := box5 BK11
   go_wp2_with (first | (refine gL 26 (some 5) Tryz.func26 #[.agg #[.slice A0_0 l0_0.length c0_0, .slice A0_1 l0_1.length c0_1, .slice A0_2 l0_2.length c0_2, .int .i64 a0_3, .int .i64 a0_4]] ?_; refine (spec_BlockOk.calls k _ _ l0_0 _ _ l0_1 _ _ l0_2 a0_3 a0_4 false _ (cb HR0_0) HC0_0.out (cb HR0_1) HC0_1.out (cb HR0_2) HC0_2.out A4.out).mono ?_; rintro e w12 ⟨rfl, hb⟩; refine ⟨_, rfl, ?_⟩; replace BK11 := kb BK11 hb; replace HB := hbs hb; clear hb))
   go_meet
   case rel => exact ⟨_, (true), rfx, H', ⟨omx⟩, ⟨bk⟩, ⟨bels⟩⟩
 case rest =>
  clear HC2
  try clear c2
  try clear p2
  try clear c5
  obtain ⟨kq, x10_1, rfl, HA, HJ1, BK11, HB⟩ := hcut
  cases kq with
  | zero => exact absurd HA.out (by simp [spec_IsStuck.j0])
  | succ kj1 =>
   have H := HA.out; clear HA
   simp only [spec_IsStuck.j0] at H
   by_cases c13 : x10_1 = true
   ·subst c13; rw [if_pos rfl] at H; obtain rfl := oI H
    go_wp2
    go_ret
    exact ⟨rfe, bels⟩
   ·replace c13 := Bool.eq_false_iff.mpr c13; subst c13; rw [if_neg (by decide)] at H
    have H' := Aside0.mk H
    clear H
    go_wp2
    go_loopg [3] kj1 (fun kq v3 w' => ∃ (x3_2 : Int), v3 = .int .i64 x3_2 ∧ Aside0 (spec_IsStuck.l0 kq x3_2 l0_0 l0_1 l0_2 a0_3 a0_4 = some r) ∧ Aside0 (kq ≤ kj1) ∧ Aside0 (w'.heap[gb11]? = some (.cells #[(.slice A0_0 l0_0.length c0_0), (.slice A0_1 l0_1.length c0_1), (.slice A0_2 l0_2.length c0_2), .int .i64 a0_3, .int .i64 a0_4] 33 (0, 0))) ∧ Aside0 (Below w.heap.size w w'))
    case atStart => exact ⟨(0), rfx, H', ⟨Nat.le_refl _⟩, ⟨bk⟩, ⟨bels⟩⟩
    case round =>
     clear H'
     try clear c1
     try clear c2
     try clear p2
     try clear c5
     try clear c13
     try clear p2
     obtain ⟨x3_2, rfl, HA, HK2, BK11, HB⟩ := hrel
     cases gk with
     | zero => exact absurd HA.out (by simp [spec_IsStuck.l0])
     | succ k2 =>
      have H := HA.out; clear HA
      simp only [spec_IsStuck.l0] at H
      by_cases c14 : x3_2 < (l0_1.length : Int)
      ·rw [if_pos c14] at H
       have c14b0 := decide_eq_true c14
       clear c14; obtain ⟨t14, A15, H⟩ := bnd H; (try dsimp only at H)
       by_cases c16 : t14 = true
       ·subst c16; rw [if_pos rfl] at H; obtain rfl := oI H; obtain ⟨_, _, _, _, _, _, _, _, _, _⟩ := box5 BK11
        go_wp2_with (first | (refine gL 62 (some 20) Tryz.func62 #[.agg #[.slice A0_0 l0_0.length c0_0, .slice A0_1 l0_1.length c0_1, .slice A0_2 l0_2.length c0_2, .int .i64 a0_3, .int .i64 a0_4], .int .i64 x3_2] ?_; refine (spec_l30Can.calls k2 _ _ l0_0 _ _ l0_1 _ _ l0_2 a0_3 a0_4 x3_2 true _ (cb HR0_0) HC0_0.out (cb HR0_1) HC0_1.out (cb HR0_2) HC0_2.out A15.out).mono ?_; rintro e w18 ⟨rfl, hb⟩; refine ⟨_, rfl, ?_⟩; replace BK11 := kb BK11 hb; replace HB := hbs hb; clear hb))
        go_ret
        exact ⟨rfe, bels⟩
       ·replace c16 := Bool.eq_false_iff.mpr c16; subst c16; rw [if_neg (by decide)] at H
        have H' := Aside0.mk H
        clear H; obtain ⟨_, _, _, _, _, _, _, _, _, _⟩ := box5 BK11
        go_wp2_with (first | (refine gL 62 (some 20) Tryz.func62 #[.agg #[.slice A0_0 l0_0.length c0_0, .slice A0_1 l0_1.length c0_1, .slice A0_2 l0_2.length c0_2, .int .i64 a0_3, .int .i64 a0_4], .int .i64 x3_2] ?_; refine (spec_l30Can.calls k2 _ _ l0_0 _ _ l0_1 _ _ l0_2 a0_3 a0_4 x3_2 false _ (cb HR0_0) HC0_0.out (cb HR0_1) HC0_1.out (cb HR0_2) HC0_2.out A15.out).mono ?_; rintro e w20 ⟨rfl, hb⟩; refine ⟨_, rfl, ?_⟩; replace BK11 := kb BK11 hb; replace HB := hbs hb; clear hb))
        go_roundg k2
        case measure => have := HJ1.out; have := HK2.out; omega
        case rel => exact ⟨(wrap64 (x3_2 + 1)), rfx, H', ⟨by have := HJ1.out; have := HK2.out; omega⟩, ⟨bk⟩, ⟨bels⟩⟩
      ·rw [if_neg c14] at H
       have c14b0 := decide_eq_false c14
       clear c14; obtain rfl := oI H; obtain ⟨_, _, _, _, _, _, _, _, _, _⟩ := box5 BK11
       go_wp2
       go_ret
       exact ⟨rfe, bels⟩

/-! ### spec_l30Ok: function 169 -/
def spec_l30Ok.f (k : Nat) (l0_0 : List (S95)) (l0_1 : List (S59)) (l0_2 : List Int) (a0_3 : Int) (a0_4 : Int) (a1 : Int) : Option (Bool) := (spec_BlockOk.f k l0_0 l0_1 l0_2 a0_3 a0_4).bind fun t12 => (if t12 = true then ((spec_l01In.f a1 0 (wrap64 ((l0_1.length : Int) - 1))).bind fun t13 => (some t13)) else (some false))
set_option maxHeartbeats 8000000 in
set_option maxRecDepth 100000 in
theorem spec_l30Ok.calls (k : Nat) (A0_0 : Option Addr) (c0_0 : Nat) (l0_0 : List (S95)) (A0_1 : Option Addr) (c0_1 : Nat) (l0_1 : List (S59)) (A0_2 : Option Addr) (c0_2 : Nat) (l0_2 : List Int) (a0_3 : Int) (a0_4 : Int) (a1 : Int) (r : Bool) (w : World) (hr0_0 : Kd.C k95 w A0_0 l0_0.length l0_0) (hc0_0 : l0_0.length ≤ c0_0) (hr0_1 : Kd.C k59 w A0_1 l0_1.length l0_1) (hc0_1 : l0_1.length ≤ c0_1) (hr0_2 : Kd.C (Kd.int .i64) w A0_2 l0_2.length l0_2) (hc0_2 : l0_2.length ≤ c0_2) (h : spec_l30Ok.f k l0_0 l0_1 l0_2 a0_3 a0_4 a1 = some r) :
  Calls Tryz.prog 169 #[.agg #[.slice A0_0 l0_0.length c0_0, .slice A0_1 l0_1.length c0_1, .slice A0_2 l0_2.length c0_2, .int .i64 a0_3, .int .i64 a0_4], .int .i64 a1] w fun e w' => e = .returned (.bool r) ∧ Below w.heap.size w w' := by
 have hu33 := Tryz.underlying33; have HR0_0 := Aside0.mk hr0_0; have HC0_0 := Aside0.mk hc0_0; clear hr0_0 hc0_0; have HR0_1 := Aside0.mk hr0_1; have HC0_1 := Aside0.mk hc0_1; clear hr0_1 hc0_1; have HR0_2 := Aside0.mk hr0_2; have HC0_2 := Aside0.mk hc0_2; clear hr0_2 hc0_2; have HB := Aside0.mk (Below.refl w.heap.size w)
 have H : ((spec_BlockOk.f k l0_0 l0_1 l0_2 a0_3 a0_4).bind fun t12 => (if t12 = true then ((spec_l01In.f a1 0 (wrap64 ((l0_1.length : Int) - 1))).bind fun t13 => (some t13)) else (some false))) = some r := h
 clear h; obtain ⟨t12, A3, H⟩ := bnd H; (try dsimp only at H)
 by_cases c4 : t12 = true
 ·subst c4; rw [if_pos rfl] at H; obtain ⟨t13, A5, H⟩ := bnd H; (try dsimp only at H); obtain rfl := oI H
  go_enter Tryz.func169, Tryz.ntmps169
  go_wp2_with (first | ((with_reducible refine gate_dst (N := 2) rfl ?_); (try (refine gate_guard (by rfl) ?_; dsimp only)); refine box_event ?hg (N := 2) ?hd (cs := #[.slice A0_0 l0_0.length c0_0, .slice A0_1 l0_1.length c0_1, .slice A0_2 l0_2.length c0_2, .int .i64 a0_3, .int .i64 a0_4]) (t := 33) ?hr ?_; (case hd => rfl); (case hg => rfl); (case hr => exact gs); intro gb11 hg w6 hbox hb; have BK11 := Aside0.mk (hbox); have GW11 := Aside0.mk (gwe hg : w.heap.size ≤ _); have GE11 := GW11; replace HB := hbs hb; clear hb hbox hg; obtain ⟨_, _, _, _, _, _, _, _, _, _⟩ := box5 BK11) | (refine gL 26 (some 6) Tryz.func26 #[.agg #[.slice A0_0 l0_0.length c0_0, .slice A0_1 l0_1.length c0_1, .slice A0_2 l0_2.length c0_2, .int .i64 a0_3, .int .i64 a0_4]] ?_; refine (spec_BlockOk.calls k _ _ l0_0 _ _ l0_1 _ _ l0_2 a0_3 a0_4 true _ (cb HR0_0) HC0_0.out (cb HR0_1) HC0_1.out (cb HR0_2) HC0_2.out A3.out).mono ?_; rintro e w8 ⟨rfl, hb⟩; refine ⟨_, rfl, ?_⟩; replace BK11 := kb BK11 hb; replace HB := hbs hb; clear hb; obtain ⟨_, _, _, _, _, _, _, _, _, _⟩ := box5 BK11) | (go_at_call 59; (with_reducible refine (spec_l01In.calls a1 0 (wrap64 ((l0_1.length : Int) - 1)) t13 _ A5.out).mono ?_); rintro e w' ⟨rfl, ⟨nd, rfl⟩⟩))
  go_ret
  exact ⟨rfe, bels⟩
 ·replace c4 := Bool.eq_false_iff.mpr c4; subst c4; rw [if_neg (by decide)] at H; obtain rfl := oI H
  go_enter Tryz.func169, Tryz.ntmps169
  go_wp2_with (first | ((with_reducible refine gate_dst (N := 2) rfl ?_); (try (refine gate_guard (by rfl) ?_; dsimp only)); refine box_event ?hg (N := 2) ?hd (cs := #[.slice A0_0 l0_0.length c0_0, .slice A0_1 l0_1.length c0_1, .slice A0_2 l0_2.length c0_2, .int .i64 a0_3, .int .i64 a0_4]) (t := 33) ?hr ?_; (case hd => rfl); (case hg => rfl); (case hr => exact gs); intro gb11 hg w10 hbox hb; have BK11 := Aside0.mk (hbox); have GW11 := Aside0.mk (gwe hg : w.heap.size ≤ _); have GE11 := GW11; replace HB := hbs hb; clear hb hbox hg; obtain ⟨_, _, _, _, _, _, _, _, _, _⟩ := box5 BK11) | (refine gL 26 (some 6) Tryz.func26 #[.agg #[.slice A0_0 l0_0.length c0_0, .slice A0_1 l0_1.length c0_1, .slice A0_2 l0_2.length c0_2, .int .i64 a0_3, .int .i64 a0_4]] ?_; refine (spec_BlockOk.calls k _ _ l0_0 _ _ l0_1 _ _ l0_2 a0_3 a0_4 false _ (cb HR0_0) HC0_0.out (cb HR0_1) HC0_1.out (cb HR0_2) HC0_2.out A3.out).mono ?_; rintro e w12 ⟨rfl, hb⟩; refine ⟨_, rfl, ?_⟩; replace BK11 := kb BK11 hb; replace HB := hbs hb; clear hb))
  go_ret
  exact ⟨rfe, bels⟩

/-! ### spec_NextOp: function 139 -/
def spec_NextOp.f (k : Nat) (l0_0 : List (S95)) (l0_1 : List (S59)) (l0_2 : List Int) (a0_3 : Int) (a0_4 : Int) (a1 : Int) : Option (Int) := (spec_l30Ok.f k l0_0 l0_1 l0_2 a0_3 a0_4 a1).bind fun t12 => (if t12 = true then (if 0 ≤ a1 then (if a1 < (l0_1.length : Int) then (if (((rd_T59 l0_1 a1).f1).length : Int) = 0 then (some (-1)) else ((spec_l30Next.f l0_0 l0_1 l0_2 a0_3 a0_4 a1).bind fun bt14 => (some bt14.1))) else (none)) else (none)) else (some (-1)))
attribute [local go_sem] Go.Instr.field Go.part Go.asAgg in
set_option maxHeartbeats 8000000 in
set_option maxRecDepth 100000 in
theorem spec_NextOp.calls (k : Nat) (A0_0 : Option Addr) (c0_0 : Nat) (l0_0 : List (S95)) (A0_1 : Option Addr) (c0_1 : Nat) (l0_1 : List (S59)) (A0_2 : Option Addr) (c0_2 : Nat) (l0_2 : List Int) (a0_3 : Int) (a0_4 : Int) (a1 : Int) (r : Int) (w : World) (hr0_0 : Kd.C k95 w A0_0 l0_0.length l0_0) (hc0_0 : l0_0.length ≤ c0_0) (hr0_1 : Kd.C k59 w A0_1 l0_1.length l0_1) (hc0_1 : l0_1.length ≤ c0_1) (hr0_2 : Kd.C (Kd.int .i64) w A0_2 l0_2.length l0_2) (hc0_2 : l0_2.length ≤ c0_2) (h : spec_NextOp.f k l0_0 l0_1 l0_2 a0_3 a0_4 a1 = some r) :
  Calls Tryz.prog 139 #[.agg #[.slice A0_0 l0_0.length c0_0, .slice A0_1 l0_1.length c0_1, .slice A0_2 l0_2.length c0_2, .int .i64 a0_3, .int .i64 a0_4], .int .i64 a1] w fun e w' => e = .returned (.int .i64 r) ∧ Below w.heap.size w w' := by
 have hu95 := Tryz.underlying95; have hu33 := Tryz.underlying33; have HR0_0 := Aside0.mk hr0_0; have HC0_0 := Aside0.mk hc0_0; clear hr0_0 hc0_0; have HR0_1 := Aside0.mk hr0_1; have HC0_1 := Aside0.mk hc0_1; clear hr0_1 hc0_1; have HR0_2 := Aside0.mk hr0_2; have HC0_2 := Aside0.mk hc0_2; clear hr0_2 hc0_2; have HB := Aside0.mk (Below.refl w.heap.size w)
 have H : ((spec_l30Ok.f k l0_0 l0_1 l0_2 a0_3 a0_4 a1).bind fun t12 => (if t12 = true then (if 0 ≤ a1 then (if a1 < (l0_1.length : Int) then (if (((rd_T59 l0_1 a1).f1).length : Int) = 0 then (some (-1)) else ((spec_l30Next.f l0_0 l0_1 l0_2 a0_3 a0_4 a1).bind fun bt14 => (some bt14.1))) else (none)) else (none)) else (some (-1)))) = some r := h
 clear h; obtain ⟨t12, A3, H⟩ := bnd H; (try dsimp only at H)
 by_cases c4 : t12 = true
 ·subst c4; rw [if_pos rfl] at H
  obtain ⟨c5, H⟩ := ifS H
  have c5b0 := decide_eq_true c5
  clear c5
  obtain ⟨c6, H⟩ := ifS H
  have c6b0 := decide_eq_true c6
  clear c6
  by_cases c7 : (((rd_T59 l0_1 a1).f1).length : Int) = 0
  ·rw [if_pos c7] at H
   have c7b0 : ((((rd_T59 l0_1 a1).f1).length : Int) == 0) = true := beq_iff_eq.mpr c7
   have c7b1 : ((((rd_T59 l0_1 a1).f1).length : Int) != 0) = false := bne_eq_false_iff_eq.mpr c7
   clear c7; obtain rfl := oI H
   go_enter Tryz.func139, Tryz.ntmps139
   go_wp2_with (first | ((with_reducible refine gate_dst (N := 2) rfl ?_); (try (refine gate_guard (by rfl) ?_; dsimp only)); refine box_event ?hg (N := 2) ?hd (cs := #[.slice A0_0 l0_0.length c0_0, .slice A0_1 l0_1.length c0_1, .slice A0_2 l0_2.length c0_2, .int .i64 a0_3, .int .i64 a0_4]) (t := 33) ?hr ?_; (case hd => rfl); (case hg => rfl); (case hr => exact gs); intro gb11 hg w8 hbox hb; have BK11 := Aside0.mk (hbox); have GW11 := Aside0.mk (gwe hg : w.heap.size ≤ _); have GE11 := GW11; replace HB := hbs hb; clear hb hbox hg; obtain ⟨_, _, _, _, _, _, _, _, _, _⟩ := box5 BK11) | (refine gL 169 (some 7) Tryz.func169 #[.agg #[.slice A0_0 l0_0.length c0_0, .slice A0_1 l0_1.length c0_1, .slice A0_2 l0_2.length c0_2, .int .i64 a0_3, .int .i64 a0_4], .int .i64 a1] ?_; refine (spec_l30Ok.calls k _ _ l0_0 _ _ l0_1 _ _ l0_2 a0_3 a0_4 a1 true _ (cb HR0_0) HC0_0.out (cb HR0_1) HC0_1.out (cb HR0_2) HC0_2.out A3.out).mono ?_; rintro e w10 ⟨rfl, hb⟩; refine ⟨_, rfl, ?_⟩; replace BK11 := kb BK11 hb; replace HB := hbs hb; clear hb; obtain ⟨_, _, _, _, _, _, _, _, _, _⟩ := box5 BK11; have p13 : 0 ≤ (a1 : Int) := pq0; have q13 : a1 < (l0_1.length : Int) := pq0; obtain ⟨ad13, A13_1, c13_1, A13_2, c13_2, e13, hx13_0, hx13_1, hx13_2, hl13_1, hi13_1, hl13_2, hi13_2⟩ := at_T59 HR0_1.out a1 p13 q13; cases e13; replace hx13_0 := hxb hx13_0; replace hx13_1 := hxb hx13_1; replace hx13_2 := hxb hx13_2; have HR13_1 := Aside0.mk hi13_1; have HC13_1 := Aside0.mk hl13_1; clear hi13_1 hl13_1; have HR13_2 := Aside0.mk hi13_2; have HC13_2 := Aside0.mk hl13_2; clear hi13_2 hl13_2; replace p13 := eq_true p13; replace q13 := eq_true q13))
   go_ret
   exact ⟨rfe, bels⟩
  ·rw [if_neg c7] at H
   have c7b0 : ((((rd_T59 l0_1 a1).f1).length : Int) == 0) = false := beq_eq_false_iff_ne.mpr c7
   have c7b1 : ((((rd_T59 l0_1 a1).f1).length : Int) != 0) = true := bne_iff_ne.mpr c7
   have c7b2 : ¬ (((rd_T59 l0_1 a1).f1) = []) := fun h_ => c7 (by rw [h_]; rfl)
   obtain ⟨⟨t14, t15, t16, t17⟩, A12, H⟩ := bnd H; (try dsimp only at H); obtain rfl := oI H
   go_enter Tryz.func139, Tryz.ntmps139
   go_wp2_with (first | ((with_reducible refine gate_dst (N := 2) rfl ?_); (try (refine gate_guard (by rfl) ?_; dsimp only)); refine box_event ?hg (N := 2) ?hd (cs := #[.slice A0_0 l0_0.length c0_0, .slice A0_1 l0_1.length c0_1, .slice A0_2 l0_2.length c0_2, .int .i64 a0_3, .int .i64 a0_4]) (t := 33) ?hr ?_; (case hd => rfl); (case hg => rfl); (case hr => exact gs); intro gb11 hg w13 hbox hb; have BK11 := Aside0.mk (hbox); have GW11 := Aside0.mk (gwe hg : w.heap.size ≤ _); have GE11 := GW11; replace HB := hbs hb; clear hb hbox hg; obtain ⟨_, _, _, _, _, _, _, _, _, _⟩ := box5 BK11) | (refine gL 169 (some 7) Tryz.func169 #[.agg #[.slice A0_0 l0_0.length c0_0, .slice A0_1 l0_1.length c0_1, .slice A0_2 l0_2.length c0_2, .int .i64 a0_3, .int .i64 a0_4], .int .i64 a1] ?_; refine (spec_l30Ok.calls k _ _ l0_0 _ _ l0_1 _ _ l0_2 a0_3 a0_4 a1 true _ (cb HR0_0) HC0_0.out (cb HR0_1) HC0_1.out (cb HR0_2) HC0_2.out A3.out).mono ?_; rintro e w15 ⟨rfl, hb⟩; refine ⟨_, rfl, ?_⟩; replace BK11 := kb BK11 hb; replace HB := hbs hb; clear hb; obtain ⟨_, _, _, _, _, _, _, _, _, _⟩ := box5 BK11; have p13 : 0 ≤ (a1 : Int) := pq0; have q13 : a1 < (l0_1.length : Int) := pq0; obtain ⟨ad13, A13_1, c13_1, A13_2, c13_2, e13, hx13_0, hx13_1, hx13_2, hl13_1, hi13_1, hl13_2, hi13_2⟩ := at_T59 HR0_1.out a1 p13 q13; cases e13; replace hx13_0 := hxb hx13_0; replace hx13_1 := hxb hx13_1; replace hx13_2 := hxb hx13_2; have HR13_1 := Aside0.mk hi13_1; have HC13_1 := Aside0.mk hl13_1; clear hi13_1 hl13_1; have HR13_2 := Aside0.mk hi13_2; have HC13_2 := Aside0.mk hl13_2; clear hi13_2 hl13_2; replace p13 := eq_true p13; replace q13 := eq_true q13) | (refine gL 103 (some 21) Tryz.func103 #[.agg #[.slice A0_0 l0_0.length c0_0, .slice (some ad13) l0_1.length c0_1, .slice A0_2 l0_2.length c0_2, .int .i64 a0_3, .int .i64 a0_4], .int .i64 a1] ?_; refine (spec_l30Next.calls _ _ l0_0 _ _ l0_1 _ _ l0_2 a0_3 a0_4 a1 t14 t15 t16 t17 _ (cb HR0_0) HC0_0.out (cb HR0_1) HC0_1.out (cb HR0_2) HC0_2.out A12.out).mono ?_; rintro e w17 ⟨rfl, hb⟩; refine ⟨_, rfl, ?_⟩; replace BK11 := kb BK11 hb; replace HB := hbs hb; clear hb))
   go_ret
   exact ⟨rfe, bels⟩
 ·replace c4 := Bool.eq_false_iff.mpr c4; subst c4; rw [if_neg (by decide)] at H; obtain rfl := oI H
  go_enter Tryz.func139, Tryz.ntmps139
  go_wp2_with (first | ((with_reducible refine gate_dst (N := 2) rfl ?_); (try (refine gate_guard (by rfl) ?_; dsimp only)); refine box_event ?hg (N := 2) ?hd (cs := #[.slice A0_0 l0_0.length c0_0, .slice A0_1 l0_1.length c0_1, .slice A0_2 l0_2.length c0_2, .int .i64 a0_3, .int .i64 a0_4]) (t := 33) ?hr ?_; (case hd => rfl); (case hg => rfl); (case hr => exact gs); intro gb11 hg w18 hbox hb; have BK11 := Aside0.mk (hbox); have GW11 := Aside0.mk (gwe hg : w.heap.size ≤ _); have GE11 := GW11; replace HB := hbs hb; clear hb hbox hg; obtain ⟨_, _, _, _, _, _, _, _, _, _⟩ := box5 BK11) | (refine gL 169 (some 7) Tryz.func169 #[.agg #[.slice A0_0 l0_0.length c0_0, .slice A0_1 l0_1.length c0_1, .slice A0_2 l0_2.length c0_2, .int .i64 a0_3, .int .i64 a0_4], .int .i64 a1] ?_; refine (spec_l30Ok.calls k _ _ l0_0 _ _ l0_1 _ _ l0_2 a0_3 a0_4 a1 false _ (cb HR0_0) HC0_0.out (cb HR0_1) HC0_1.out (cb HR0_2) HC0_2.out A3.out).mono ?_; rintro e w20 ⟨rfl, hb⟩; refine ⟨_, rfl, ?_⟩; replace BK11 := kb BK11 hb; replace HB := hbs hb; clear hb))
  go_ret
  exact ⟨rfe, bels⟩

end Go.Proofs.YtmnkbchieplicaaGreatDoor.Q
