/- spec.FormatInt at 0 .. 1000000000: the numeral. -/
import Derived.Test.YtmnkbchieplicaaGreatDoorKFnExactFormatBlock07
import Derived.Lib.ItoaLen
import Derived.Lib.LazyBuf
namespace Go.Proofs.YtmnkbchieplicaaGreatDoor.Q
open Go Go.RowKit Go.Proofs.YtmnkbchieplicaaGreatDoorW.PrintWords Go.Proofs.YtmnkbchieplicaaGreatDoorW.PrintLast Go.Proofs.YtmnkbchieplicaaGreatDoorW.PrintMore
set_option linter.unusedVariables false
set_option linter.unusedSimpArgs false

def decB (n : Int) : ByteArray := ⟨(Lib.itoa n).toArray⟩
theorem decB_size (n : Int) (h0 : 0 ≤ n) (h1 : n ≤ 1000000000) : (decB n).size ≤ 21 := by
 have := Lib.itoa_length_le n (by omega) (by omega)
 show (Lib.itoa n).toArray.size ≤ 21
 simpa using this
theorem ofNat48 (d : Nat) : UInt8.ofNat (48 + d) = 48 + UInt8.ofNat d := by simp
theorem ba_cons (a : UInt8) (s : List UInt8) : (⟨#[a]⟩ : ByteArray) ++ (⟨s.toArray⟩ : ByteArray) = ⟨(a :: s).toArray⟩ := by
 apply ByteArray.ext
 simp [ByteArray.data_append]
def digsOf (m : Nat) : List UInt8 := if m = 0 then [] else Lib.decDigits m
theorem digsOf_step (m : Nat) (h : 0 < m) : digsOf m = digsOf (m / 10) ++ [UInt8.ofNat (48 + m % 10)] := by
 unfold digsOf
 rw [if_neg (by omega), Lib.decDigits]
 by_cases c : m < 10
 ·rw [dif_pos c, if_pos (by omega), Nat.mod_eq_of_lt c, List.nil_append]
 ·rw [dif_neg c, if_neg (by omega)]
theorem digit_f (d : Nat) (h : d < 10) : spec_l01Figure.f (d : Int) = some ((48 + d : Nat) : Int) := by
 unfold spec_l01Figure.f
 have e : wrap64 (48 + (d : Int)) % 256 = ((48 + d : Nat) : Int) := by unfold wrap64; omega
 rw [if_pos (by clear e; omega), e]
theorem str_one (d : Nat) (h : d < 10) : strOfNums [((48 + d : Nat) : Int)] = ⟨#[UInt8.ofNat (48 + d)]⟩ := by
 have := Lib.Lz.strOfNums_map [UInt8.ofNat (48 + d)]
 have e : (UInt8.ofNat (48 + d)).toNat = 48 + d := by rw [UInt8.toNat_ofNat']; omega
 rw [List.map_cons, List.map_nil, e] at this
 exact this
def spec_FormatInt.f (n : Int) : Option ByteArray := if 0 ≤ n ∧ n ≤ 1000000000 then some (decB n) else none
set_option maxHeartbeats 2000000 in
set_option maxRecDepth 100000 in
theorem spec_FormatInt.calls (a0 : Int) (r : ByteArray) (w : World) (h : spec_FormatInt.f a0 = some r) :
  Calls Tryz.prog 30 #[.int .i64 a0] w fun e w' => e = .returned (.string r) ∧ Below w.heap.size w w' := by
 unfold spec_FormatInt.f at h
 have HB := Aside0.mk (Below.refl w.heap.size w)
 by_cases hw : 0 ≤ a0 ∧ a0 ≤ 1000000000
 ·rw [if_pos hw] at h; obtain rfl := Option.some.inj h; clear h; obtain ⟨n, rfl⟩ := Int.eq_ofNat_of_zero_le hw.1
  have hn : n ≤ 1000000000 := by omega
  have HN := Aside0.mk hn; have HL := Aside0.mk (decB_size (n : Int) hw.1 hw.2); clear hw hn
  by_cases c2 : (n : Int) = 0
  ·have hn0 : n = 0 := by omega
   subst hn0; clear c2
   go_enter Tryz.func30, Tryz.ntmps30
   go_wp2
   go_ret
   exact ⟨by first | rfl | (unfold decB Lib.itoa; rw [if_neg (by omega), Lib.decDigits]; rfl), HB.out⟩
  ·have c2b0 : ((n : Int) == 0) = false := beq_eq_false_iff_ne.mpr c2
   have c3 : decide ((n : Int) < 0) = false := decide_eq_false (by omega)
   have HD := Aside0.mk (show digsOf n ++ [] = Lib.decDigits n by unfold digsOf; rw [if_neg (by omega), List.append_nil]); have HE := Aside0.mk (show decB (n : Int) = ⟨(Lib.decDigits n).toArray⟩ by unfold decB; rw [Lib.itoa_nonneg]); have HG := Aside0.mk (show (Lib.decDigits n).length ≤ 21 by have h1 := HL.out; rw [HE.out] at h1; simpa [ByteArray.size] using h1); clear c2
   go_enter Tryz.func30, Tryz.ntmps30
   go_wp2
   go_loopw [0, 4] (fun v0 v4 wr => ∃ (m : Nat) (s : List UInt8), v0 = .int .i64 (m : Int) ∧ v4 = .string ⟨s.toArray⟩ ∧ Aside0 (m ≤ 1000000000) ∧ Aside0 (digsOf m ++ s = Lib.decDigits n) ∧ Aside0 (Below w.heap.size w wr)) (fun v0 _ _ => (intOf v0).toNat)
   case atStart => exact ⟨n, [], rfl, rfl, HN, HD, ⟨bels⟩⟩
   case round =>
    clear c3 c2b0 HD; obtain ⟨m, s, rfl, rfl, HM, HD, HB⟩ := hrel
    by_cases cm : m = 0
    ·subst cm; have HS := Aside0.mk (show s = Lib.decDigits n by have h1 := HD.out; simpa [digsOf] using h1)
     go_wp2
     go_ret
     exact ⟨by rw [HE.out, ← HS.out]; rfl, HB.out⟩
    ·have c1 : ((m : Int) != 0) = true := bne_iff_ne.mpr (by omega)
     have c2 : Int.tmod (m : Int) 10 = ((m % 10 : Nat) : Int) := by rw [Int.tmod_eq_emod_of_nonneg (by omega)]; omega
     have c3 : Int.tdiv (m : Int) 10 = ((m / 10 : Nat) : Int) := by rw [Int.tdiv_eq_ediv_of_nonneg (by omega)]; omega
     have C4 := Aside0.mk (show wrap64 ((m / 10 : Nat) : Int) = ((m / 10 : Nat) : Int) by have := HM.out; clear c1 c2 c3; unfold wrap64; omega)
     have c5 : decide (((m % 10 : Nat) : Int) < 0) = false := decide_eq_false (by omega)
     have A7 := Aside0.mk (digit_f (m % 10) (by omega)); have HO := Aside0.mk (str_one (m % 10) (by omega)); have HD2 := Aside0.mk (show digsOf (m / 10) ++ ((48 + UInt8.ofNat (m % 10)) :: s) = Lib.decDigits n by rw [← HD.out, digsOf_step m (by omega), List.append_assoc, ofNat48]; rfl)
     have c6 : (9223372036854775807 < 1 + s.length) = False := eq_false (by have h1 := HG.out; rw [← HD2.out] at h1; simp at h1; omega)
     have HZ := Aside0.mk (show 1 + s.length ≤ 21 by have h1 := HG.out; rw [← HD2.out] at h1; simp at h1; omega); have HMM := Aside0.mk (show m / 10 < m by omega); clear cm; generalize hq : m / 10 = q at *; generalize hd : m % 10 = d at *
     go_wp2_with (first | (refine gL 64 (some 19) Tryz.func64 #[.int .i64 (d : Int)] ?_; (with_reducible refine (spec_l01Figure.calls (d : Int) ((48 + d : Nat) : Int) _ A7.out).mono ?_); rintro e w' ⟨rfl, ⟨nd, rfl⟩⟩; refine ⟨_, rfl, ?_⟩) | ((with_reducible refine gate_dst (N := 20) rfl ?_); refine Kd.R_lit (Kd.int .u8) _ 5 ?hg (N := 20) ?hd (xs := ([((48 + d : Nat) : Int)] : List Int)) (inner := [.int .u8 ((48 + d : Nat) : Int)]) (ok := fun _ => True) (okp := fun _ => True) ?hr ?hp (fun _ hk => hk) trivial (Below.refl _ _) (Nat.le_refl _) (by simp) ?_; (case hd => rfl); (case hg => rfl); (case hr => exact gs); (case hp => exact (Reps.one (show Kd.M (Kd.int .u8) _ _ _ ((48 + d : Nat) : Int) [.int .u8 ((48 + d : Nat) : Int)] from rfl) (Reps.none _ _))); intro v116 w14 ho15 hb hg_ hnew_; clear hg_ hnew_; have HO117 := Aside0.mk (Kd.R_lower ho15 (below_size bels)); replace HB := hbs hb; clear hb ho15; have hcv16 := own_string (P := Tryz.prog) Tryz.underlying40 Tryz.underlying5 Tryz.underlying9 (Kd.own_of_R HO117.out); rw [HO.out] at hcv16))
     go_roundw
     case measure => have := HMM.out; clear c2 c3; rw [C4.out]; simp only [intOf]; omega
     case rel => exact ⟨q, (48 + UInt8.ofNat d) :: s, (by rw [C4.out]), (by rw [ba_cons]), ⟨by have := HM.out; have := HMM.out; clear c2 c3; omega⟩, HD2, ⟨bels⟩⟩
 ·rw [if_neg hw] at h
  exact absurd h (by simp)

end Go.Proofs.YtmnkbchieplicaaGreatDoor.Q
