/- impl.(Warp).zeroMask: the active lanes whose register is 0. -/
import Derived.Test.YtmnkbchieplicaaGreatDoorKFnExactFormatBlock19
namespace Go.Proofs.YtmnkbchieplicaaGreatDoor.Q
open Go Go.RowKit Go.Proofs.YtmnkbchieplicaaGreatDoorW.PrintWords Go.Proofs.YtmnkbchieplicaaGreatDoorW.PrintLast Go.Proofs.YtmnkbchieplicaaGreatDoorW.PrintMore
set_option linter.unusedVariables false
set_option linter.unusedSimpArgs false

theorem topF_rd {l : List S132} (h : l ≠ []) (z : S132) : l.getD (l.length - 1) z = topF l := by
 have hp : 0 < l.length := List.length_pos_iff.mpr h
 unfold topF
 rw [List.getLastD_eq_getLast?, List.getLast?_eq_getElem?, List.getD_eq_getElem?_getD, List.getElem?_eq_getElem (by omega)]
 rfl
theorem active_f (a : Int) {l : List S132} (h : l ≠ []) (hl : l.length ≤ 1000) (l2 : List Int) : impl_ActiveMask.f a l l2 = some (topF l).f2 := by
 have hp : 0 < l.length := List.length_pos_iff.mpr h
 have e1 : wrap64 ((l.length : Int) - 1) = ((l.length - 1 : Nat) : Int) := by unfold wrap64; omega
 unfold impl_ActiveMask.f
 rw [if_neg (by omega), e1, if_pos (by omega), if_pos (by omega)]
 unfold rd_T132
 rw [Int.toNat_natCast, topF_rd h]
def impl_Warp_zeroMask.f (a0 : Int) (l1 : List S132) (l2 : List Int) (a1 : Int) : Option Int :=
 if (l1 ≠ [] ∧ l1.length ≤ 1000 ∧ 0 ≤ (topF l1).f2 ∧ (topF l1).f2 ≤ 255) ∧ l2.length = 32 ∧ 0 ≤ a1 ∧ a1 ≤ 3 then some (zeroM l2 (topF l1).f2 a1.toNat) else none
set_option maxHeartbeats 1000000 in
set_option maxRecDepth 100000 in
theorem impl_Warp_zeroMask.calls (a0_0 : Int) (A0_1 : Option Addr) (c0_1 : Nat) (l0_1 : List S132) (A0_2 : Option Addr) (c0_2 : Nat) (l0_2 : List Int) (a1 : Int) (r : Int) (w : World) (hr0_1 : Kd.C k132 w A0_1 l0_1.length l0_1) (hc0_1 : l0_1.length ≤ c0_1) (hr0_2 : Kd.C (Kd.int .i64) w A0_2 l0_2.length l0_2) (hc0_2 : l0_2.length ≤ c0_2) (h : impl_Warp_zeroMask.f a0_0 l0_1 l0_2 a1 = some r) :
  Calls Tryz.prog 128 #[.agg #[.int .i64 a0_0, .slice A0_1 l0_1.length c0_1, .slice A0_2 l0_2.length c0_2], .int .i64 a1] w fun e w' => e = .returned (.int .i64 r) ∧ Below w.heap.size w w' := by
 have hu := Tryz.underlying59
 unfold impl_Warp_zeroMask.f at h
 by_cases hc : (l0_1 ≠ [] ∧ l0_1.length ≤ 1000 ∧ 0 ≤ (topF l0_1).f2 ∧ (topF l0_1).f2 ≤ 255) ∧ l0_2.length = 32 ∧ 0 ≤ a1 ∧ a1 ≤ 3
 ·rw [if_pos hc] at h; obtain rfl := Option.some.inj h; clear h; obtain ⟨⟨hne, hl, hm0, hm1⟩, hl2, ha0, ha1⟩ := hc; have HRF := Aside0.mk hr0_1; have HRR := Aside0.mk hr0_2; have HB := Aside0.mk (Below.refl w.heap.size w); have HA := Aside0.mk (fun (W : World) h1 h2 => impl_ActiveMask.calls a0_0 A0_1 c0_1 l0_1 A0_2 c0_2 l0_2 _ W h1 hc0_1 h2 hc0_2 (active_f a0_0 hne hl l0_2)); have HL := Aside0.mk (fun (W : World) => impl_LanesOf.calls 9 (topF l0_1).f2 _ W (lanesOf_f hm0 hm1 (Nat.le_refl 9))); have HZ := Aside0.mk (zm_all l0_2 a1 (topF l0_1).f2 ha0)
  obtain ⟨adR, eA⟩ : ∃ ad, A0_2 = some ad := by
   obtain ⟨ad, e, _⟩ := hr0_2.2.2 (by omega)
   exact ⟨ad, e⟩
  subst eA
  have hc2 : 32 ≤ c0_2 := by omega
  rw [← HZ.out]; have HLn := Aside0.mk hl2; clear hr0_1 hr0_2 hne hl HZ hc0_1 hc0_2 hl2; generalize (topF l0_1).f2 = m at *; have HM := Aside0.mk (And.intro hm0 hm1); clear hm0 hm1
  have hmem : ∀ q : Nat, q < (lanesL m).length → 0 ≤ rd (lanesL m) q ∧ rd (lanesL m) q ≤ 7 := by
   intro q hq
   unfold rd
   rw [Int.toNat_natCast, List.getD_eq_getElem?_getD, List.getElem?_eq_getElem hq]
   exact mem_lanesL (List.getElem_mem hq)
  have hlen := lanesL_len m; generalize lanesL m = ls at *; have HMEM := Aside0.mk hmem; have HLEN := Aside0.mk hlen; clear hmem hlen
  go_enter Tryz.func128, Tryz.ntmps128
  go_wp2_with fail
  refine (HA.out _ (Kd.C_below HRF.out bels) (Kd.C_below HRR.out bels)).mono ?_
  rintro e w1 ⟨rfl, hb1⟩; have HB1 := Aside0.mk (below_step bels hb1); have BK1 := Aside0.mk (show w1.heap[w.heap.size]? = some (.cells #[.int .i64 a0_0, .slice A0_1 l0_1.length c0_1, .slice (some adR) l0_2.length c0_2] 59 (0, 0)) from blk_below (blk_new _ _) hb1); clear hb1
  go_wp2_with fail
  refine (HL.out _).mono ?_
  rintro e w2 ⟨v2, rfl, ho2, hb2⟩; obtain ⟨A2, c2, rfl⟩ := Kd.R_slice ho2; have HB2 := Aside0.mk (below_step (by repeat (first | (with_reducible first | exact HB1.out | apply below_alloc | apply pw_below_drewN | apply below_drew1) | exact HB1.out)) hb2); have BK := Aside0.mk (show w2.heap[w.heap.size]? = some (.cells #[.int .i64 a0_0, .slice A0_1 l0_1.length c0_1, .slice (some adR) l0_2.length c0_2] 59 (0, 0)) from blk_below BK1.out hb2); have HL2 := Aside0.mk ((Kd.R_reads' ho2).2.2); clear hb2 ho2
  go_wp2_with fail
  go_loopg [5, 12] (ls.length + 1) (fun kq v5 v12 w' => ∃ q : Nat, v12 = .int .i64 (q : Int) ∧ v5 = .int .i64 ((ls.take q).foldl (zmStep l0_2 a1) 0) ∧ Aside0 (q ≤ ls.length ∧ q + kq = ls.length + 1) ∧ Aside0 (Below w2.heap.size w2 w'))
  case atStart => exact ⟨0, rfl, rfl, ⟨by omega⟩, ⟨Below.refl _ _⟩⟩
  case round =>
   obtain ⟨q, rfl, rfl, HQ, HB3⟩ := hrel; have HBK := Aside0.mk (blk_below BK.out HB3.out); have hz0 := blk_cell HBK.out 0; have hz1 := blk_cell HBK.out 1; have hz2 := blk_cell HBK.out 2
   by_cases c : q < ls.length
   ·have d1 : decide ((q : Int) < (ls.length : Int)) = true := decide_eq_true (by omega)
    obtain ⟨adL, eL, hxL⟩ := Kd.at_int (Kd.C_below HL2.out HB3.out) (q : Int) (by omega) (by omega); subst eL
    simp only [Int.toNat_natCast] at hxL
    have hm7 := HMEM.out q c
    have HT := Aside0.mk (show (ls.take (q + 1)).foldl (zmStep l0_2 a1) 0 = zmStep l0_2 a1 ((ls.take q).foldl (zmStep l0_2 a1) 0) (rd ls q) from by
     rw [List.take_add_one, List.foldl_append]
     unfold rd
     rw [Int.toNat_natCast, List.getD_eq_getElem?_getD, List.getElem?_eq_getElem c]; rfl)
    obtain ⟨adR2, eR, hxR⟩ := Kd.at_int (Kd.C_below HRR.out (HB2.out.trans (HB3.out.mono HB2.out.size))) (rd ls q * 4 + a1) (by omega) (by have := HLn.out; omega)
    cases eR
    generalize rd ls q = l at *; generalize (ls.take q).foldl (zmStep l0_2 a1) 0 = z at *
    have eO : (l * 4 + a1).toNat = l.toNat * 4 + a1.toNat := by omega
    rw [eO, ← addr_add2] at hxR; have HXR := Aside0.mk hxR
    have d2 := decide_eq_true ha0
    have d3 : decide (a1 < 4) = true := decide_eq_true (by omega)
    clear eO
    go_wp2_with fail
    refine (lane_calls a0_0 A0_1 l0_1.length c0_1 adR l0_2.length c0_2 l _ hm7.1 hm7.2 hc2).mono ?_
    rintro e w4 ⟨rfl, hb4⟩; have HB4 := Aside0.mk (below_step HB3.out hb4); have hx4 := (hb4.cell (World.block_lt_of_cell? wr _ HXR.out)).trans HXR.out; clear hb4
    by_cases cz : rd l0_2 (l * 4 + a1) = 0
    ·have d4 : (rd l0_2 (l * 4 + a1) == 0) = true := by simpa using cz
     have HS := Aside0.mk (show zmStep l0_2 a1 z l = Go.bits .or .i64 z (wrap64 (2 ^ l.toNat)) from if_pos cz); clear cz
     go_wp2_with fail
     go_roundg (gk - 1)
     case measure => have := HQ.out; omega
     case rel => exact ⟨q + 1, by rw [show wrap64 ((q : Int) + 1) = ((q + 1 : Nat) : Int) from by have := HLEN.out; unfold wrap64; omega], by first | rfl | (simp; done) | (rw [HT.out, HS.out]), ⟨by have := HQ.out; omega⟩, ⟨by repeat (first | (with_reducible first | exact HB4.out | apply below_alloc | apply pw_below_drewN | apply below_drew1) | exact HB4.out)⟩⟩
    ·have d4 : (rd l0_2 (l * 4 + a1) == 0) = false := by simpa using cz
     have HS := Aside0.mk (show zmStep l0_2 a1 z l = z from if_neg cz); clear cz
     go_wp2_with fail
     go_roundg (gk - 1)
     case measure => have := HQ.out; omega
     case rel => exact ⟨q + 1, by rw [show wrap64 ((q : Int) + 1) = ((q + 1 : Nat) : Int) from by have := HLEN.out; unfold wrap64; omega], by first | rfl | (simp; done) | (rw [HT.out, HS.out]), ⟨by have := HQ.out; omega⟩, ⟨by repeat (first | (with_reducible first | exact HB4.out | apply below_alloc | apply pw_below_drewN | apply below_drew1) | exact HB4.out)⟩⟩
   ·have d1 : decide ((q : Int) < (ls.length : Int)) = false := decide_eq_false (by omega)
    have hq : q = ls.length := by have := HQ.out; omega
    subst hq
    go_wp2_with fail
    go_ret
    exact ⟨by first | rfl | (simp; done) | (rw [List.take_length]), HB2.out.trans (HB3.out.mono HB2.out.size)⟩
 ·rw [if_neg hc] at h; cases h

end Go.Proofs.YtmnkbchieplicaaGreatDoor.Q
