/- Contracts of functions of the program and of the laws, written by program out of the translation; conditions: as each theorem says. -/
import Derived.Test.YtmnkbchieplicaaGreatDoorKFnExactFormatBlock03
namespace Go.Proofs.YtmnkbchieplicaaGreatDoor.Q
open Go.RowKit Go.Proofs.YtmnkbchieplicaaGreatDoorW.PrintWords Go.Proofs.YtmnkbchieplicaaGreatDoorW.PrintLast Go.Proofs.YtmnkbchieplicaaGreatDoorW.PrintMore
attribute [local go_sem] max2_int min2_int max_two min_two max_three min_three max_four min_four   -- for this text's walks alone
set_option linter.unusedVariables false
set_option linter.unusedSimpArgs false

/-! ### spec_AtBarrier: function 106 -/
def spec_AtBarrier.f (k : Nat) (l0_0 : List (S95)) (l0_1 : List (S59)) (l0_2 : List Int) (a0_3 : Int) (a0_4 : Int) (a1 : Int) : Option (Bool) := (spec_NextOp.f k l0_0 l0_1 l0_2 a0_3 a0_4 a1).bind fun t12 => (some (t12 == 16))
set_option maxHeartbeats 8000000 in
set_option maxRecDepth 100000 in
theorem spec_AtBarrier.calls (k : Nat) (A0_0 : Option Addr) (c0_0 : Nat) (l0_0 : List (S95)) (A0_1 : Option Addr) (c0_1 : Nat) (l0_1 : List (S59)) (A0_2 : Option Addr) (c0_2 : Nat) (l0_2 : List Int) (a0_3 : Int) (a0_4 : Int) (a1 : Int) (r : Bool) (w : World) (hr0_0 : Kd.C k95 w A0_0 l0_0.length l0_0) (hc0_0 : l0_0.length ≤ c0_0) (hr0_1 : Kd.C k59 w A0_1 l0_1.length l0_1) (hc0_1 : l0_1.length ≤ c0_1) (hr0_2 : Kd.C (Kd.int .i64) w A0_2 l0_2.length l0_2) (hc0_2 : l0_2.length ≤ c0_2) (h : spec_AtBarrier.f k l0_0 l0_1 l0_2 a0_3 a0_4 a1 = some r) :
  Calls Tryz.prog 106 #[.agg #[.slice A0_0 l0_0.length c0_0, .slice A0_1 l0_1.length c0_1, .slice A0_2 l0_2.length c0_2, .int .i64 a0_3, .int .i64 a0_4], .int .i64 a1] w fun e w' => e = .returned (.bool r) ∧ Below w.heap.size w w' := by
 have hu33 := Tryz.underlying33; have HR0_0 := Aside0.mk hr0_0; have HC0_0 := Aside0.mk hc0_0; clear hr0_0 hc0_0; have HR0_1 := Aside0.mk hr0_1; have HC0_1 := Aside0.mk hc0_1; clear hr0_1 hc0_1; have HR0_2 := Aside0.mk hr0_2; have HC0_2 := Aside0.mk hc0_2; clear hr0_2 hc0_2; have HB := Aside0.mk (Below.refl w.heap.size w)
 have H : ((spec_NextOp.f k l0_0 l0_1 l0_2 a0_3 a0_4 a1).bind fun t12 => (some (t12 == 16))) = some r := h
 clear h; obtain ⟨t12, A3, H⟩ := bnd H; (try dsimp only at H); obtain rfl := oI H
 go_enter Tryz.func106, Tryz.ntmps106
 go_wp2_with (first | (refine bxe 2 #[.slice A0_0 l0_0.length c0_0, .slice A0_1 l0_1.length c0_1, .slice A0_2 l0_2.length c0_2, .int .i64 a0_3, .int .i64 a0_4] 33 ?_; intro gb11 hg w4 hbox hb; have BK11 := Aside0.mk (hbox); have GW11 := Aside0.mk (gwe hg : w.heap.size ≤ _); have GE11 := GW11; replace HB := hbs hb; clear hb hbox hg; obtain ⟨_, _, _, _, _, _, _, _, _, _⟩ := box5 BK11) | (refine gL 139 (some 7) Tryz.func139 #[.agg #[.slice A0_0 l0_0.length c0_0, .slice A0_1 l0_1.length c0_1, .slice A0_2 l0_2.length c0_2, .int .i64 a0_3, .int .i64 a0_4], .int .i64 a1] ?_; refine (spec_NextOp.calls k _ _ l0_0 _ _ l0_1 _ _ l0_2 a0_3 a0_4 a1 t12 _ (cb HR0_0) HC0_0.out (cb HR0_1) HC0_1.out (cb HR0_2) HC0_2.out A3.out).mono ?_; rintro e w6 ⟨rfl, hb⟩; refine ⟨_, rfl, ?_⟩; replace BK11 := kb BK11 hb; replace HB := hbs hb; clear hb))
 go_ret
 exact ⟨rfe, bels⟩

/-! ### spec_IsSplitBarrier: function 63 -/
def spec_IsSplitBarrier.f (k : Nat) (l0_0 : List (S95)) (l0_1 : List (S59)) (l0_2 : List Int) (a0_3 : Int) (a0_4 : Int) (a1 : Int) : Option (Bool) := (spec_AtBarrier.f k l0_0 l0_1 l0_2 a0_3 a0_4 a1).bind fun t12 => (if t12 = true then (if 0 ≤ a1 then (if a1 < (l0_1.length : Int) then (some (decide ((((rd_T59 l0_1 a1).f1).length : Int) > 1))) else (none)) else (none)) else (some false))
set_option maxHeartbeats 8000000 in
set_option maxRecDepth 100000 in
theorem spec_IsSplitBarrier.calls (k : Nat) (A0_0 : Option Addr) (c0_0 : Nat) (l0_0 : List (S95)) (A0_1 : Option Addr) (c0_1 : Nat) (l0_1 : List (S59)) (A0_2 : Option Addr) (c0_2 : Nat) (l0_2 : List Int) (a0_3 : Int) (a0_4 : Int) (a1 : Int) (r : Bool) (w : World) (hr0_0 : Kd.C k95 w A0_0 l0_0.length l0_0) (hc0_0 : l0_0.length ≤ c0_0) (hr0_1 : Kd.C k59 w A0_1 l0_1.length l0_1) (hc0_1 : l0_1.length ≤ c0_1) (hr0_2 : Kd.C (Kd.int .i64) w A0_2 l0_2.length l0_2) (hc0_2 : l0_2.length ≤ c0_2) (h : spec_IsSplitBarrier.f k l0_0 l0_1 l0_2 a0_3 a0_4 a1 = some r) :
  Calls Tryz.prog 63 #[.agg #[.slice A0_0 l0_0.length c0_0, .slice A0_1 l0_1.length c0_1, .slice A0_2 l0_2.length c0_2, .int .i64 a0_3, .int .i64 a0_4], .int .i64 a1] w fun e w' => e = .returned (.bool r) ∧ Below w.heap.size w w' := by
 have hu33 := Tryz.underlying33; have HR0_0 := Aside0.mk hr0_0; have HC0_0 := Aside0.mk hc0_0; clear hr0_0 hc0_0; have HR0_1 := Aside0.mk hr0_1; have HC0_1 := Aside0.mk hc0_1; clear hr0_1 hc0_1; have HR0_2 := Aside0.mk hr0_2; have HC0_2 := Aside0.mk hc0_2; clear hr0_2 hc0_2; have HB := Aside0.mk (Below.refl w.heap.size w)
 have H : ((spec_AtBarrier.f k l0_0 l0_1 l0_2 a0_3 a0_4 a1).bind fun t12 => (if t12 = true then (if 0 ≤ a1 then (if a1 < (l0_1.length : Int) then (some (decide ((((rd_T59 l0_1 a1).f1).length : Int) > 1))) else (none)) else (none)) else (some false))) = some r := h
 clear h; obtain ⟨t12, A3, H⟩ := bnd H; (try dsimp only at H)
 by_cases c4 : t12 = true
 ·subst c4; rw [if_pos rfl] at H
  obtain ⟨c5, H⟩ := ifS H
  have c5b0 := decide_eq_true c5
  clear c5
  obtain ⟨c6, H⟩ := ifS H
  have c6b0 := decide_eq_true c6
  clear c6; obtain rfl := oI H
  go_enter Tryz.func63, Tryz.ntmps63
  go_wp2_with (first | ((with_reducible refine gate_dst (N := 2) rfl ?_); (try (refine gate_guard (by rfl) ?_; dsimp only)); refine box_event ?hg (N := 2) ?hd (cs := #[.slice A0_0 l0_0.length c0_0, .slice A0_1 l0_1.length c0_1, .slice A0_2 l0_2.length c0_2, .int .i64 a0_3, .int .i64 a0_4]) (t := 33) ?hr ?_; (case hd => rfl); (case hg => rfl); (case hr => exact gs); intro gb11 hg w7 hbox hb; have BK11 := Aside0.mk (hbox); have GW11 := Aside0.mk (gwe hg : w.heap.size ≤ _); have GE11 := GW11; replace HB := hbs hb; clear hb hbox hg; obtain ⟨_, _, _, _, _, _, _, _, _, _⟩ := box5 BK11) | (refine gL 106 (some 7) Tryz.func106 #[.agg #[.slice A0_0 l0_0.length c0_0, .slice A0_1 l0_1.length c0_1, .slice A0_2 l0_2.length c0_2, .int .i64 a0_3, .int .i64 a0_4], .int .i64 a1] ?_; refine (spec_AtBarrier.calls k _ _ l0_0 _ _ l0_1 _ _ l0_2 a0_3 a0_4 a1 true _ (cb HR0_0) HC0_0.out (cb HR0_1) HC0_1.out (cb HR0_2) HC0_2.out A3.out).mono ?_; rintro e w9 ⟨rfl, hb⟩; refine ⟨_, rfl, ?_⟩; replace BK11 := kb BK11 hb; replace HB := hbs hb; clear hb; obtain ⟨_, _, _, _, _, _, _, _, _, _⟩ := box5 BK11; have p13 : 0 ≤ (a1 : Int) := pq0; have q13 : a1 < (l0_1.length : Int) := pq0; obtain ⟨ad13, A13_1, c13_1, A13_2, c13_2, e13, hx13_0, hx13_1, hx13_2, hl13_1, hi13_1, hl13_2, hi13_2⟩ := at_T59 HR0_1.out a1 p13 q13; cases e13; replace hx13_0 := hxb hx13_0; replace hx13_1 := hxb hx13_1; replace hx13_2 := hxb hx13_2; have HR13_1 := Aside0.mk hi13_1; have HC13_1 := Aside0.mk hl13_1; clear hi13_1 hl13_1; have HR13_2 := Aside0.mk hi13_2; have HC13_2 := Aside0.mk hl13_2; clear hi13_2 hl13_2; replace p13 := eq_true p13; replace q13 := eq_true q13))
  go_ret
  exact ⟨rfe, bels⟩
 ·replace c4 := Bool.eq_false_iff.mpr c4; subst c4; rw [if_neg (by decide)] at H; obtain rfl := oI H
  go_enter Tryz.func63, Tryz.ntmps63
  go_wp2_with (first | ((with_reducible refine gate_dst (N := 2) rfl ?_); (try (refine gate_guard (by rfl) ?_; dsimp only)); refine box_event ?hg (N := 2) ?hd (cs := #[.slice A0_0 l0_0.length c0_0, .slice A0_1 l0_1.length c0_1, .slice A0_2 l0_2.length c0_2, .int .i64 a0_3, .int .i64 a0_4]) (t := 33) ?hr ?_; (case hd => rfl); (case hg => rfl); (case hr => exact gs); intro gb11 hg w11 hbox hb; have BK11 := Aside0.mk (hbox); have GW11 := Aside0.mk (gwe hg : w.heap.size ≤ _); have GE11 := GW11; replace HB := hbs hb; clear hb hbox hg; obtain ⟨_, _, _, _, _, _, _, _, _, _⟩ := box5 BK11) | (refine gL 106 (some 7) Tryz.func106 #[.agg #[.slice A0_0 l0_0.length c0_0, .slice A0_1 l0_1.length c0_1, .slice A0_2 l0_2.length c0_2, .int .i64 a0_3, .int .i64 a0_4], .int .i64 a1] ?_; refine (spec_AtBarrier.calls k _ _ l0_0 _ _ l0_1 _ _ l0_2 a0_3 a0_4 a1 false _ (cb HR0_0) HC0_0.out (cb HR0_1) HC0_1.out (cb HR0_2) HC0_2.out A3.out).mono ?_; rintro e w13 ⟨rfl, hb⟩; refine ⟨_, rfl, ?_⟩; replace BK11 := kb BK11 hb; replace HB := hbs hb; clear hb))
  go_ret
  exact ⟨rfe, bels⟩

/-! ### spec_StuckReason: function 29 -/
def spec_StuckReason.l0 : Nat → Int → List (S95) → List (S59) → List Int → Int → Int → Option (ByteArray)
 | 0, _, _, _, _, _, _ => none
 | k + 1, x3, x12000, x12001, x12002, x12003, x12004 => if x3 < (x12001.length : Int) then ((spec_IsSplitBarrier.f k x12000 x12001 x12002 x12003 x12004 x3).bind fun t13 => (if t13 = true then (some (⟨#[115, 112, 108, 105, 116]⟩ : ByteArray)) else (spec_StuckReason.l0 k (wrap64 (x3 + 1)) x12000 x12001 x12002 x12003 x12004))) else (some (⟨#[102, 114, 97, 109, 101, 115]⟩ : ByteArray))
def spec_StuckReason.f (k : Nat) (l0_0 : List (S95)) (l0_1 : List (S59)) (l0_2 : List Int) (a0_3 : Int) (a0_4 : Int) : Option (ByteArray) := (spec_IsStuck.f k l0_0 l0_1 l0_2 a0_3 a0_4).bind fun t12 => (if t12 = true then (spec_StuckReason.l0 k 0 l0_0 l0_1 l0_2 a0_3 a0_4) else (some (⟨#[]⟩ : ByteArray)))
set_option maxHeartbeats 8000000 in
set_option maxRecDepth 100000 in
theorem spec_StuckReason.calls (k : Nat) (A0_0 : Option Addr) (c0_0 : Nat) (l0_0 : List (S95)) (A0_1 : Option Addr) (c0_1 : Nat) (l0_1 : List (S59)) (A0_2 : Option Addr) (c0_2 : Nat) (l0_2 : List Int) (a0_3 : Int) (a0_4 : Int) (r : ByteArray) (w : World) (hr0_0 : Kd.C k95 w A0_0 l0_0.length l0_0) (hc0_0 : l0_0.length ≤ c0_0) (hr0_1 : Kd.C k59 w A0_1 l0_1.length l0_1) (hc0_1 : l0_1.length ≤ c0_1) (hr0_2 : Kd.C (Kd.int .i64) w A0_2 l0_2.length l0_2) (hc0_2 : l0_2.length ≤ c0_2) (h : spec_StuckReason.f k l0_0 l0_1 l0_2 a0_3 a0_4 = some r) :
  Calls Tryz.prog 29 #[.agg #[.slice A0_0 l0_0.length c0_0, .slice A0_1 l0_1.length c0_1, .slice A0_2 l0_2.length c0_2, .int .i64 a0_3, .int .i64 a0_4]] w fun e w' => e = .returned (.string r) ∧ Below w.heap.size w w' := by
 have hu33 := Tryz.underlying33; have HR0_0 := Aside0.mk hr0_0; have HC0_0 := Aside0.mk hc0_0; clear hr0_0 hc0_0; have HR0_1 := Aside0.mk hr0_1; have HC0_1 := Aside0.mk hc0_1; clear hr0_1 hc0_1; have HR0_2 := Aside0.mk hr0_2; have HC0_2 := Aside0.mk hc0_2; clear hr0_2 hc0_2; have HB := Aside0.mk (Below.refl w.heap.size w)
 have H : ((spec_IsStuck.f k l0_0 l0_1 l0_2 a0_3 a0_4).bind fun t12 => (if t12 = true then (spec_StuckReason.l0 k 0 l0_0 l0_1 l0_2 a0_3 a0_4) else (some (⟨#[]⟩ : ByteArray)))) = some r := h
 clear h; obtain ⟨t12, A2, H⟩ := bnd H; (try dsimp only at H)
 by_cases c3 : t12 = true
 ·subst c3; rw [if_pos rfl] at H
  have H' := Aside0.mk H
  clear H
  go_enter Tryz.func29, Tryz.ntmps29
  go_wp2_with (first | (refine bxe 1 #[.slice A0_0 l0_0.length c0_0, .slice A0_1 l0_1.length c0_1, .slice A0_2 l0_2.length c0_2, .int .i64 a0_3, .int .i64 a0_4] 33 ?_; intro gb11 hg w4 hbox hb; have BK11 := Aside0.mk (hbox); have GW11 := Aside0.mk (gwe hg : w.heap.size ≤ _); have GE11 := GW11; replace HB := hbs hb; clear hb hbox hg; obtain ⟨_, _, _, _, _, _, _, _, _, _⟩ := box5 BK11) | (refine gL 28 (some 5) Tryz.func28 #[.agg #[.slice A0_0 l0_0.length c0_0, .slice A0_1 l0_1.length c0_1, .slice A0_2 l0_2.length c0_2, .int .i64 a0_3, .int .i64 a0_4]] ?_; refine (spec_IsStuck.calls k _ _ l0_0 _ _ l0_1 _ _ l0_2 a0_3 a0_4 true _ (cb HR0_0) HC0_0.out (cb HR0_1) HC0_1.out (cb HR0_2) HC0_2.out A2.out).mono ?_; rintro e w6 ⟨rfl, hb⟩; refine ⟨_, rfl, ?_⟩; replace BK11 := kb BK11 hb; replace HB := hbs hb; clear hb))
  go_loopg [3] k (fun kq v3 w' => ∃ (x3_1 : Int), v3 = .int .i64 x3_1 ∧ Aside0 (spec_StuckReason.l0 kq x3_1 l0_0 l0_1 l0_2 a0_3 a0_4 = some r) ∧ Aside0 (kq ≤ k) ∧ Aside0 (w'.heap[gb11]? = some (.cells #[(.slice A0_0 l0_0.length c0_0), (.slice A0_1 l0_1.length c0_1), (.slice A0_2 l0_2.length c0_2), .int .i64 a0_3, .int .i64 a0_4] 33 (0, 0))) ∧ Aside0 (Below w.heap.size w w'))
  case atStart => exact ⟨(0), rfx, H', ⟨Nat.le_refl _⟩, ⟨bk⟩, ⟨bels⟩⟩
  case round =>
   clear H'
   try clear c2
   try clear p2
   try clear c3
   obtain ⟨x3_1, rfl, HA, HK1, BK11, HB⟩ := hrel
   cases gk with
   | zero => exact absurd HA.out (by simp [spec_StuckReason.l0])
   | succ k1 =>
    have H := HA.out; clear HA
    simp only [spec_StuckReason.l0] at H
    by_cases c7 : x3_1 < (l0_1.length : Int)
    ·rw [if_pos c7] at H
     have c7b0 := decide_eq_true c7
     clear c7; obtain ⟨t13, A8, H⟩ := bnd H; (try dsimp only at H)
     by_cases c9 : t13 = true
     ·subst c9; rw [if_pos rfl] at H; obtain rfl := oI H; obtain ⟨_, _, _, _, _, _, _, _, _, _⟩ := box5 BK11
      go_wp2_with (first | (refine gL 63 (some 16) Tryz.func63 #[.agg #[.slice A0_0 l0_0.length c0_0, .slice A0_1 l0_1.length c0_1, .slice A0_2 l0_2.length c0_2, .int .i64 a0_3, .int .i64 a0_4], .int .i64 x3_1] ?_; refine (spec_IsSplitBarrier.calls k1 _ _ l0_0 _ _ l0_1 _ _ l0_2 a0_3 a0_4 x3_1 true _ (cb HR0_0) HC0_0.out (cb HR0_1) HC0_1.out (cb HR0_2) HC0_2.out A8.out).mono ?_; rintro e w11 ⟨rfl, hb⟩; refine ⟨_, rfl, ?_⟩; replace BK11 := kb BK11 hb; replace HB := hbs hb; clear hb))
      go_ret
      exact ⟨rfe, bels⟩
     ·replace c9 := Bool.eq_false_iff.mpr c9; subst c9; rw [if_neg (by decide)] at H
      have H' := Aside0.mk H
      clear H; obtain ⟨_, _, _, _, _, _, _, _, _, _⟩ := box5 BK11
      go_wp2_with (first | (refine gL 63 (some 16) Tryz.func63 #[.agg #[.slice A0_0 l0_0.length c0_0, .slice A0_1 l0_1.length c0_1, .slice A0_2 l0_2.length c0_2, .int .i64 a0_3, .int .i64 a0_4], .int .i64 x3_1] ?_; refine (spec_IsSplitBarrier.calls k1 _ _ l0_0 _ _ l0_1 _ _ l0_2 a0_3 a0_4 x3_1 false _ (cb HR0_0) HC0_0.out (cb HR0_1) HC0_1.out (cb HR0_2) HC0_2.out A8.out).mono ?_; rintro e w13 ⟨rfl, hb⟩; refine ⟨_, rfl, ?_⟩; replace BK11 := kb BK11 hb; replace HB := hbs hb; clear hb))
      go_roundg k1
      case measure => have := HK1.out; omega
      case rel => exact ⟨(wrap64 (x3_1 + 1)), rfx, H', ⟨by have := HK1.out; omega⟩, ⟨bk⟩, ⟨bels⟩⟩
    ·rw [if_neg c7] at H
     have c7b0 := decide_eq_false c7
     clear c7; obtain rfl := oI H; obtain ⟨_, _, _, _, _, _, _, _, _, _⟩ := box5 BK11
     go_wp2
     go_ret
     exact ⟨rfe, bels⟩
 ·replace c3 := Bool.eq_false_iff.mpr c3; subst c3; rw [if_neg (by decide)] at H; obtain rfl := oI H
  go_enter Tryz.func29, Tryz.ntmps29
  go_wp2_with (first | (refine bxe 1 #[.slice A0_0 l0_0.length c0_0, .slice A0_1 l0_1.length c0_1, .slice A0_2 l0_2.length c0_2, .int .i64 a0_3, .int .i64 a0_4] 33 ?_; intro gb11 hg w15 hbox hb; have BK11 := Aside0.mk (hbox); have GW11 := Aside0.mk (gwe hg : w.heap.size ≤ _); have GE11 := GW11; replace HB := hbs hb; clear hb hbox hg; obtain ⟨_, _, _, _, _, _, _, _, _, _⟩ := box5 BK11) | (refine gL 28 (some 5) Tryz.func28 #[.agg #[.slice A0_0 l0_0.length c0_0, .slice A0_1 l0_1.length c0_1, .slice A0_2 l0_2.length c0_2, .int .i64 a0_3, .int .i64 a0_4]] ?_; refine (spec_IsStuck.calls k _ _ l0_0 _ _ l0_1 _ _ l0_2 a0_3 a0_4 false _ (cb HR0_0) HC0_0.out (cb HR0_1) HC0_1.out (cb HR0_2) HC0_2.out A2.out).mono ?_; rintro e w17 ⟨rfl, hb⟩; refine ⟨_, rfl, ?_⟩; replace BK11 := kb BK11 hb; replace HB := hbs hb; clear hb))
  go_ret
  exact ⟨rfe, bels⟩

/-! ### spec_WrapWord: function 31 -/
def spec_WrapWord.f (a0 : Int) : Option (Int) := some (Int.tmod (wrap64 ((Int.tmod a0 65536) + 65536)) 65536)
set_option maxHeartbeats 8000000 in
set_option maxRecDepth 100000 in
theorem spec_WrapWord.calls (a0 : Int) (r : Int) (w : World) (h : spec_WrapWord.f a0 = some r) :
  Calls Tryz.prog 31 #[.int .i64 a0] w fun e w' => e = .returned (.int .i64 r) ∧ Drawn0 w w' := by
 have H : (some (Int.tmod (wrap64 ((Int.tmod a0 65536) + 65536)) 65536)) = some r := h
 clear h; obtain rfl := oI H
 go_enter Tryz.func31, Tryz.ntmps31
 go_wp2
 go_ret
 exact ⟨by first | rfl | (simp; done) | (simp [*]; done), by repeat (first | exact Drawn0.refl _ | apply Drawn0.step)⟩

/-! ### spec_l01Figure: function 64 -/
def spec_l01Figure.f (a0 : Int) : Option (Int) := if a0 < 10 then (some ((wrap64 (48 + a0)) % 256)) else (some ((wrap64 ((wrap64 (97 + a0)) - 10)) % 256))
set_option maxHeartbeats 8000000 in
set_option maxRecDepth 100000 in
theorem spec_l01Figure.calls (a0 : Int) (r : Int) (w : World) (h : spec_l01Figure.f a0 = some r) :
  Calls Tryz.prog 64 #[.int .i64 a0] w fun e w' => e = .returned (.int .u8 r) ∧ Drawn0 w w' := by
 have H : (if a0 < 10 then (some ((wrap64 (48 + a0)) % 256)) else (some ((wrap64 ((wrap64 (97 + a0)) - 10)) % 256))) = some r := h
 clear h
 by_cases c2 : a0 < 10
 ·rw [if_pos c2] at H
  have c2b0 := decide_eq_true c2
  clear c2; obtain rfl := oI H
  go_enter Tryz.func64, Tryz.ntmps64
  go_wp2
  go_ret
  exact ⟨by first | rfl | (simp; done) | (simp [*]; done), by repeat (first | exact Drawn0.refl _ | apply Drawn0.step)⟩
 ·rw [if_neg c2] at H
  have c2b0 := decide_eq_false c2
  clear c2; obtain rfl := oI H
  go_enter Tryz.func64, Tryz.ntmps64
  go_wp2
  go_ret
  exact ⟨by first | rfl | (simp; done) | (simp [*]; done), by repeat (first | exact Drawn0.refl _ | apply Drawn0.step)⟩

end Go.Proofs.YtmnkbchieplicaaGreatDoor.Q
