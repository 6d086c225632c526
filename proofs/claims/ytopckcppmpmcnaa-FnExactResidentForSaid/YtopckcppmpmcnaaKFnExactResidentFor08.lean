/- The contract of impl.ReadsRegs in the printed form. -/
import Derived.Test.YtopckcppmpmcnaaKFnExactResidentFor07
namespace Go.Proofs.Ytopckcppmpmcnaa.Q
open Go.RowKit Go.Proofs.YtopckcppmpmcnaaW.PrintWords Go.Proofs.YtopckcppmpmcnaaW.PrintLast Go.Proofs.YtopckcppmpmcnaaW.PrintMore
set_option linter.unusedVariables false
set_option linter.unusedSimpArgs false

def regsOf (op a b c : Int) : List Int :=
  if op = 2 then [b] else if op = 13 then [b] else if op = 3 then [b, c] else if op = 4 then [b, c] else if op = 5 then [b, c] else if op = 6 then [b, c] else if op = 7 then [b, c]
  else if op = 9 then [a, b, c] else if op = 10 then [a] else if op = 14 then [a, b] else if op = 15 then [a, b] else []
def impl_ReadsRegs.f (a0_0 a0_1 a0_2 a0_3 : Int) : Option (List Int) := some (Lib.compact (upS (regsOf a0_0 a0_1 a0_2 a0_3)))
theorem regs_2 {op a b c : Int} (h : (op == 2) = true) : regsOf op a b c = [b] := by obtain rfl := eq_of_beq h; rfl
theorem regs_13 {op a b c : Int} (h : (op == 13) = true) : regsOf op a b c = [b] := by obtain rfl := eq_of_beq h; rfl
theorem regs_3 {op a b c : Int} (h : (op == 3) = true) : regsOf op a b c = [b, c] := by obtain rfl := eq_of_beq h; rfl
theorem regs_4 {op a b c : Int} (h : (op == 4) = true) : regsOf op a b c = [b, c] := by obtain rfl := eq_of_beq h; rfl
theorem regs_5 {op a b c : Int} (h : (op == 5) = true) : regsOf op a b c = [b, c] := by obtain rfl := eq_of_beq h; rfl
theorem regs_6 {op a b c : Int} (h : (op == 6) = true) : regsOf op a b c = [b, c] := by obtain rfl := eq_of_beq h; rfl
theorem regs_7 {op a b c : Int} (h : (op == 7) = true) : regsOf op a b c = [b, c] := by obtain rfl := eq_of_beq h; rfl
theorem regs_9 {op a b c : Int} (h : (op == 9) = true) : regsOf op a b c = [a, b, c] := by obtain rfl := eq_of_beq h; rfl
theorem regs_10 {op a b c : Int} (h : (op == 10) = true) : regsOf op a b c = [a] := by obtain rfl := eq_of_beq h; rfl
theorem regs_14 {op a b c : Int} (h : (op == 14) = true) : regsOf op a b c = [a, b] := by obtain rfl := eq_of_beq h; rfl
theorem regs_15 {op a b c : Int} (h : (op == 15) = true) : regsOf op a b c = [a, b] := by obtain rfl := eq_of_beq h; rfl
theorem regs_none {op a b c : Int} (h2 : (op == 2) = false) (h13 : (op == 13) = false) (h3 : (op == 3) = false) (h4 : (op == 4) = false) (h5 : (op == 5) = false) (h6 : (op == 6) = false) (h7 : (op == 7) = false) (h9 : (op == 9) = false) (h10 : (op == 10) = false) (h14 : (op == 14) = false) (h15 : (op == 15) = false) : regsOf op a b c = [] := by
  simp only [beq_eq_false_iff_ne, ne_eq] at *
  unfold regsOf
  rw [if_neg h2, if_neg h13, if_neg h3, if_neg h4, if_neg h5, if_neg h6, if_neg h7, if_neg h9, if_neg h10, if_neg h14, if_neg h15]
/-- A literal that the call has just laid. -/
theorem lit_R (W : World) (g : Nat) (l : List Int) (base : Nat) (hh : W.heap[g]? = some (.cells (l.map (Value.int .i64)).toArray 3 (0, 0))) (hb : base ≤ g) (hn : l.length ≤ maxLen := by simp [maxLen]) : Kd.R (Kd.int .i64) 3 W base (fun _ => True) (.slice (some ⟨g, 0, none⟩) l.length l.length) l :=
  Kd.R_of_own ⟨by simp [encs], .inr ⟨g, l.length, _, rfl, hb, hh, Nat.le_refl _, hn, by simp, by simp only [encs, Nat.mul_one]; exact List.take_of_length_le (by simp)⟩⟩ (fun _ _ => trivial)
theorem size_al (w : World) (o : Obj) : (w.alloc o).heap.size = w.heap.size + 1 := Array.size_push _
theorem lit3 (w : World) (o1 o2 o : Obj) : (((w.alloc o1).alloc o2).alloc o).heap[w.heap.size + 1 + 1]? = some o := by
  have h := blk_new ((w.alloc o1).alloc o2) o
  rw [size_al, size_al] at h; exact h
theorem lit2 (w : World) (o1 o : Obj) : ((w.alloc o1).alloc o).heap[w.heap.size + 1]? = some o := by
  have h := blk_new (w.alloc o1) o
  rw [size_al] at h; exact h
theorem size3 (w : World) (o1 o2 o : Obj) : w.heap.size ≤ (((w.alloc o1).alloc o2).alloc o).heap.size := by rw [size_al, size_al, size_al]; omega
theorem size2 (w : World) (o1 o : Obj) : w.heap.size ≤ ((w.alloc o1).alloc o).heap.size := by rw [size_al, size_al]; omega
set_option maxHeartbeats 2000000 in
set_option maxRecDepth 100000 in
theorem impl_ReadsRegs.calls (a0_0 a0_1 a0_2 a0_3 : Int) (r : List Int) (w : World) (h : impl_ReadsRegs.f a0_0 a0_1 a0_2 a0_3 = some r) :
    Calls Try.prog 107 #[.agg #[.int .i64 a0_0, .int .i64 a0_1, .int .i64 a0_2, .int .i64 a0_3]] w fun e w' => ∃ v0_ : Value, e = .returned (v0_) ∧ Kd.R (Kd.int .i64) 3 w' w.heap.size (fun _ => True) v0_ r ∧ Below w.heap.size w w' := by
  obtain rfl := Option.some.inj h
  clear h
  have HB := Aside0.mk (Below.refl w.heap.size w)
  go_enter Try.func107, Try.ntmps107
  go_wp2_with fail
  · have hl := regs_2 (a := a0_1) (b := a0_2) (c := a0_3) (show (a0_0 == 2) = true by assumption)
    refine (sort_R w.heap.size (fun _ => True) _ [a0_2] _ (lit_R _ _ [a0_2] _ (by first | exact lit3 _ _ _ _ | exact lit2 _ _ _) (by omega)) (by simp) (by first | exact size3 _ _ _ _ | exact size2 _ _ _)).mono ?_
    rintro e w1 ⟨rfl, hr1, hb1⟩
    have HR1 := Aside0.mk hr1
    have HB1 := Aside0.mk (Below.trans (by repeat (first | exact HB.out | apply below_alloc)) hb1)
    clear hr1 hb1
    go_wp2_with fail
    refine (compact_R w.heap.size (fun _ => True) _ (upS [a0_2]) _ (by (with_reducible repeat (first | apply Kd.R_alloc | apply Kd.R_drewN | apply Kd.R_drew)); exact HR1.out) (by rw [upS_len]; simp) (by first | exact HB1.out.size | exact (pw_below_drewN HB1.out _).size)).mono ?_
    rintro e w2 ⟨v', rfl, hr2, hb2⟩
    have HR2 := Aside0.mk hr2
    have HB2 := Aside0.mk (Below.trans (by repeat (first | (with_reducible first | exact HB1.out | apply below_alloc | apply pw_below_drewN | apply below_drew1) | exact HB1.out)) hb2)
    clear hr2 hb2
    go_wp2_with fail
    go_ret
    exact ⟨_, rfl, by rw [hl]; (with_reducible repeat (first | apply Kd.R_alloc | apply Kd.R_drewN | apply Kd.R_drew)); exact HR2.out, by repeat (first | (with_reducible first | exact HB2.out | apply below_alloc | apply pw_below_drewN | apply below_drew1) | exact HB2.out)⟩
  · have hl := regs_13 (a := a0_1) (b := a0_2) (c := a0_3) (show (a0_0 == 13) = true by assumption)
    refine (sort_R w.heap.size (fun _ => True) _ [a0_2] _ (lit_R _ _ [a0_2] _ (by first | exact lit3 _ _ _ _ | exact lit2 _ _ _) (by omega)) (by simp) (by first | exact size3 _ _ _ _ | exact size2 _ _ _)).mono ?_
    rintro e w1 ⟨rfl, hr1, hb1⟩
    have HR1 := Aside0.mk hr1
    have HB1 := Aside0.mk (Below.trans (by repeat (first | exact HB.out | apply below_alloc)) hb1)
    clear hr1 hb1
    go_wp2_with fail
    refine (compact_R w.heap.size (fun _ => True) _ (upS [a0_2]) _ (by (with_reducible repeat (first | apply Kd.R_alloc | apply Kd.R_drewN | apply Kd.R_drew)); exact HR1.out) (by rw [upS_len]; simp) (by first | exact HB1.out.size | exact (pw_below_drewN HB1.out _).size)).mono ?_
    rintro e w2 ⟨v', rfl, hr2, hb2⟩
    have HR2 := Aside0.mk hr2
    have HB2 := Aside0.mk (Below.trans (by repeat (first | (with_reducible first | exact HB1.out | apply below_alloc | apply pw_below_drewN | apply below_drew1) | exact HB1.out)) hb2)
    clear hr2 hb2
    go_wp2_with fail
    go_ret
    exact ⟨_, rfl, by rw [hl]; (with_reducible repeat (first | apply Kd.R_alloc | apply Kd.R_drewN | apply Kd.R_drew)); exact HR2.out, by repeat (first | (with_reducible first | exact HB2.out | apply below_alloc | apply pw_below_drewN | apply below_drew1) | exact HB2.out)⟩
  · have hl := regs_3 (a := a0_1) (b := a0_2) (c := a0_3) (show (a0_0 == 3) = true by assumption)
    refine (sort_R w.heap.size (fun _ => True) _ [a0_2, a0_3] _ (lit_R _ _ [a0_2, a0_3] _ (by first | exact lit3 _ _ _ _ | exact lit2 _ _ _) (by omega)) (by simp) (by first | exact size3 _ _ _ _ | exact size2 _ _ _)).mono ?_
    rintro e w1 ⟨rfl, hr1, hb1⟩
    have HR1 := Aside0.mk hr1
    have HB1 := Aside0.mk (Below.trans (by repeat (first | exact HB.out | apply below_alloc)) hb1)
    clear hr1 hb1
    go_wp2_with fail
    refine (compact_R w.heap.size (fun _ => True) _ (upS [a0_2, a0_3]) _ (by (with_reducible repeat (first | apply Kd.R_alloc | apply Kd.R_drewN | apply Kd.R_drew)); exact HR1.out) (by rw [upS_len]; simp) (by first | exact HB1.out.size | exact (pw_below_drewN HB1.out _).size)).mono ?_
    rintro e w2 ⟨v', rfl, hr2, hb2⟩
    have HR2 := Aside0.mk hr2
    have HB2 := Aside0.mk (Below.trans (by repeat (first | (with_reducible first | exact HB1.out | apply below_alloc | apply pw_below_drewN | apply below_drew1) | exact HB1.out)) hb2)
    clear hr2 hb2
    go_wp2_with fail
    go_ret
    exact ⟨_, rfl, by rw [hl]; (with_reducible repeat (first | apply Kd.R_alloc | apply Kd.R_drewN | apply Kd.R_drew)); exact HR2.out, by repeat (first | (with_reducible first | exact HB2.out | apply below_alloc | apply pw_below_drewN | apply below_drew1) | exact HB2.out)⟩
  · have hl := regs_4 (a := a0_1) (b := a0_2) (c := a0_3) (show (a0_0 == 4) = true by assumption)
    refine (sort_R w.heap.size (fun _ => True) _ [a0_2, a0_3] _ (lit_R _ _ [a0_2, a0_3] _ (by first | exact lit3 _ _ _ _ | exact lit2 _ _ _) (by omega)) (by simp) (by first | exact size3 _ _ _ _ | exact size2 _ _ _)).mono ?_
    rintro e w1 ⟨rfl, hr1, hb1⟩
    have HR1 := Aside0.mk hr1
    have HB1 := Aside0.mk (Below.trans (by repeat (first | exact HB.out | apply below_alloc)) hb1)
    clear hr1 hb1
    go_wp2_with fail
    refine (compact_R w.heap.size (fun _ => True) _ (upS [a0_2, a0_3]) _ (by (with_reducible repeat (first | apply Kd.R_alloc | apply Kd.R_drewN | apply Kd.R_drew)); exact HR1.out) (by rw [upS_len]; simp) (by first | exact HB1.out.size | exact (pw_below_drewN HB1.out _).size)).mono ?_
    rintro e w2 ⟨v', rfl, hr2, hb2⟩
    have HR2 := Aside0.mk hr2
    have HB2 := Aside0.mk (Below.trans (by repeat (first | (with_reducible first | exact HB1.out | apply below_alloc | apply pw_below_drewN | apply below_drew1) | exact HB1.out)) hb2)
    clear hr2 hb2
    go_wp2_with fail
    go_ret
    exact ⟨_, rfl, by rw [hl]; (with_reducible repeat (first | apply Kd.R_alloc | apply Kd.R_drewN | apply Kd.R_drew)); exact HR2.out, by repeat (first | (with_reducible first | exact HB2.out | apply below_alloc | apply pw_below_drewN | apply below_drew1) | exact HB2.out)⟩
  · have hl := regs_5 (a := a0_1) (b := a0_2) (c := a0_3) (show (a0_0 == 5) = true by assumption)
    refine (sort_R w.heap.size (fun _ => True) _ [a0_2, a0_3] _ (lit_R _ _ [a0_2, a0_3] _ (by first | exact lit3 _ _ _ _ | exact lit2 _ _ _) (by omega)) (by simp) (by first | exact size3 _ _ _ _ | exact size2 _ _ _)).mono ?_
    rintro e w1 ⟨rfl, hr1, hb1⟩
    have HR1 := Aside0.mk hr1
    have HB1 := Aside0.mk (Below.trans (by repeat (first | exact HB.out | apply below_alloc)) hb1)
    clear hr1 hb1
    go_wp2_with fail
    refine (compact_R w.heap.size (fun _ => True) _ (upS [a0_2, a0_3]) _ (by (with_reducible repeat (first | apply Kd.R_alloc | apply Kd.R_drewN | apply Kd.R_drew)); exact HR1.out) (by rw [upS_len]; simp) (by first | exact HB1.out.size | exact (pw_below_drewN HB1.out _).size)).mono ?_
    rintro e w2 ⟨v', rfl, hr2, hb2⟩
    have HR2 := Aside0.mk hr2
    have HB2 := Aside0.mk (Below.trans (by repeat (first | (with_reducible first | exact HB1.out | apply below_alloc | apply pw_below_drewN | apply below_drew1) | exact HB1.out)) hb2)
    clear hr2 hb2
    go_wp2_with fail
    go_ret
    exact ⟨_, rfl, by rw [hl]; (with_reducible repeat (first | apply Kd.R_alloc | apply Kd.R_drewN | apply Kd.R_drew)); exact HR2.out, by repeat (first | (with_reducible first | exact HB2.out | apply below_alloc | apply pw_below_drewN | apply below_drew1) | exact HB2.out)⟩
  · have hl := regs_6 (a := a0_1) (b := a0_2) (c := a0_3) (show (a0_0 == 6) = true by assumption)
    refine (sort_R w.heap.size (fun _ => True) _ [a0_2, a0_3] _ (lit_R _ _ [a0_2, a0_3] _ (by first | exact lit3 _ _ _ _ | exact lit2 _ _ _) (by omega)) (by simp) (by first | exact size3 _ _ _ _ | exact size2 _ _ _)).mono ?_
    rintro e w1 ⟨rfl, hr1, hb1⟩
    have HR1 := Aside0.mk hr1
    have HB1 := Aside0.mk (Below.trans (by repeat (first | exact HB.out | apply below_alloc)) hb1)
    clear hr1 hb1
    go_wp2_with fail
    refine (compact_R w.heap.size (fun _ => True) _ (upS [a0_2, a0_3]) _ (by (with_reducible repeat (first | apply Kd.R_alloc | apply Kd.R_drewN | apply Kd.R_drew)); exact HR1.out) (by rw [upS_len]; simp) (by first | exact HB1.out.size | exact (pw_below_drewN HB1.out _).size)).mono ?_
    rintro e w2 ⟨v', rfl, hr2, hb2⟩
    have HR2 := Aside0.mk hr2
    have HB2 := Aside0.mk (Below.trans (by repeat (first | (with_reducible first | exact HB1.out | apply below_alloc | apply pw_below_drewN | apply below_drew1) | exact HB1.out)) hb2)
    clear hr2 hb2
    go_wp2_with fail
    go_ret
    exact ⟨_, rfl, by rw [hl]; (with_reducible repeat (first | apply Kd.R_alloc | apply Kd.R_drewN | apply Kd.R_drew)); exact HR2.out, by repeat (first | (with_reducible first | exact HB2.out | apply below_alloc | apply pw_below_drewN | apply below_drew1) | exact HB2.out)⟩
  · have hl := regs_7 (a := a0_1) (b := a0_2) (c := a0_3) (show (a0_0 == 7) = true by assumption)
    refine (sort_R w.heap.size (fun _ => True) _ [a0_2, a0_3] _ (lit_R _ _ [a0_2, a0_3] _ (by first | exact lit3 _ _ _ _ | exact lit2 _ _ _) (by omega)) (by simp) (by first | exact size3 _ _ _ _ | exact size2 _ _ _)).mono ?_
    rintro e w1 ⟨rfl, hr1, hb1⟩
    have HR1 := Aside0.mk hr1
    have HB1 := Aside0.mk (Below.trans (by repeat (first | exact HB.out | apply below_alloc)) hb1)
    clear hr1 hb1
    go_wp2_with fail
    refine (compact_R w.heap.size (fun _ => True) _ (upS [a0_2, a0_3]) _ (by (with_reducible repeat (first | apply Kd.R_alloc | apply Kd.R_drewN | apply Kd.R_drew)); exact HR1.out) (by rw [upS_len]; simp) (by first | exact HB1.out.size | exact (pw_below_drewN HB1.out _).size)).mono ?_
    rintro e w2 ⟨v', rfl, hr2, hb2⟩
    have HR2 := Aside0.mk hr2
    have HB2 := Aside0.mk (Below.trans (by repeat (first | (with_reducible first | exact HB1.out | apply below_alloc | apply pw_below_drewN | apply below_drew1) | exact HB1.out)) hb2)
    clear hr2 hb2
    go_wp2_with fail
    go_ret
    exact ⟨_, rfl, by rw [hl]; (with_reducible repeat (first | apply Kd.R_alloc | apply Kd.R_drewN | apply Kd.R_drew)); exact HR2.out, by repeat (first | (with_reducible first | exact HB2.out | apply below_alloc | apply pw_below_drewN | apply below_drew1) | exact HB2.out)⟩
  · have hl := regs_9 (a := a0_1) (b := a0_2) (c := a0_3) (show (a0_0 == 9) = true by assumption)
    refine (sort_R w.heap.size (fun _ => True) _ [a0_1, a0_2, a0_3] _ (lit_R _ _ [a0_1, a0_2, a0_3] _ (by first | exact lit3 _ _ _ _ | exact lit2 _ _ _) (by omega)) (by simp) (by first | exact size3 _ _ _ _ | exact size2 _ _ _)).mono ?_
    rintro e w1 ⟨rfl, hr1, hb1⟩
    have HR1 := Aside0.mk hr1
    have HB1 := Aside0.mk (Below.trans (by repeat (first | exact HB.out | apply below_alloc)) hb1)
    clear hr1 hb1
    go_wp2_with fail
    refine (compact_R w.heap.size (fun _ => True) _ (upS [a0_1, a0_2, a0_3]) _ (by (with_reducible repeat (first | apply Kd.R_alloc | apply Kd.R_drewN | apply Kd.R_drew)); exact HR1.out) (by rw [upS_len]; simp) (by first | exact HB1.out.size | exact (pw_below_drewN HB1.out _).size)).mono ?_
    rintro e w2 ⟨v', rfl, hr2, hb2⟩
    have HR2 := Aside0.mk hr2
    have HB2 := Aside0.mk (Below.trans (by repeat (first | (with_reducible first | exact HB1.out | apply below_alloc | apply pw_below_drewN | apply below_drew1) | exact HB1.out)) hb2)
    clear hr2 hb2
    go_wp2_with fail
    go_ret
    exact ⟨_, rfl, by rw [hl]; (with_reducible repeat (first | apply Kd.R_alloc | apply Kd.R_drewN | apply Kd.R_drew)); exact HR2.out, by repeat (first | (with_reducible first | exact HB2.out | apply below_alloc | apply pw_below_drewN | apply below_drew1) | exact HB2.out)⟩
  · have hl := regs_10 (a := a0_1) (b := a0_2) (c := a0_3) (show (a0_0 == 10) = true by assumption)
    refine (sort_R w.heap.size (fun _ => True) _ [a0_1] _ (lit_R _ _ [a0_1] _ (by first | exact lit3 _ _ _ _ | exact lit2 _ _ _) (by omega)) (by simp) (by first | exact size3 _ _ _ _ | exact size2 _ _ _)).mono ?_
    rintro e w1 ⟨rfl, hr1, hb1⟩
    have HR1 := Aside0.mk hr1
    have HB1 := Aside0.mk (Below.trans (by repeat (first | exact HB.out | apply below_alloc)) hb1)
    clear hr1 hb1
    go_wp2_with fail
    refine (compact_R w.heap.size (fun _ => True) _ (upS [a0_1]) _ (by (with_reducible repeat (first | apply Kd.R_alloc | apply Kd.R_drewN | apply Kd.R_drew)); exact HR1.out) (by rw [upS_len]; simp) (by first | exact HB1.out.size | exact (pw_below_drewN HB1.out _).size)).mono ?_
    rintro e w2 ⟨v', rfl, hr2, hb2⟩
    have HR2 := Aside0.mk hr2
    have HB2 := Aside0.mk (Below.trans (by repeat (first | (with_reducible first | exact HB1.out | apply below_alloc | apply pw_below_drewN | apply below_drew1) | exact HB1.out)) hb2)
    clear hr2 hb2
    go_wp2_with fail
    go_ret
    exact ⟨_, rfl, by rw [hl]; (with_reducible repeat (first | apply Kd.R_alloc | apply Kd.R_drewN | apply Kd.R_drew)); exact HR2.out, by repeat (first | (with_reducible first | exact HB2.out | apply below_alloc | apply pw_below_drewN | apply below_drew1) | exact HB2.out)⟩
  · have hl := regs_14 (a := a0_1) (b := a0_2) (c := a0_3) (show (a0_0 == 14) = true by assumption)
    refine (sort_R w.heap.size (fun _ => True) _ [a0_1, a0_2] _ (lit_R _ _ [a0_1, a0_2] _ (by first | exact lit3 _ _ _ _ | exact lit2 _ _ _) (by omega)) (by simp) (by first | exact size3 _ _ _ _ | exact size2 _ _ _)).mono ?_
    rintro e w1 ⟨rfl, hr1, hb1⟩
    have HR1 := Aside0.mk hr1
    have HB1 := Aside0.mk (Below.trans (by repeat (first | exact HB.out | apply below_alloc)) hb1)
    clear hr1 hb1
    go_wp2_with fail
    refine (compact_R w.heap.size (fun _ => True) _ (upS [a0_1, a0_2]) _ (by (with_reducible repeat (first | apply Kd.R_alloc | apply Kd.R_drewN | apply Kd.R_drew)); exact HR1.out) (by rw [upS_len]; simp) (by first | exact HB1.out.size | exact (pw_below_drewN HB1.out _).size)).mono ?_
    rintro e w2 ⟨v', rfl, hr2, hb2⟩
    have HR2 := Aside0.mk hr2
    have HB2 := Aside0.mk (Below.trans (by repeat (first | (with_reducible first | exact HB1.out | apply below_alloc | apply pw_below_drewN | apply below_drew1) | exact HB1.out)) hb2)
    clear hr2 hb2
    go_wp2_with fail
    go_ret
    exact ⟨_, rfl, by rw [hl]; (with_reducible repeat (first | apply Kd.R_alloc | apply Kd.R_drewN | apply Kd.R_drew)); exact HR2.out, by repeat (first | (with_reducible first | exact HB2.out | apply below_alloc | apply pw_below_drewN | apply below_drew1) | exact HB2.out)⟩
  · have hl := regs_15 (a := a0_1) (b := a0_2) (c := a0_3) (show (a0_0 == 15) = true by assumption)
    refine (sort_R w.heap.size (fun _ => True) _ [a0_1, a0_2] _ (lit_R _ _ [a0_1, a0_2] _ (by first | exact lit3 _ _ _ _ | exact lit2 _ _ _) (by omega)) (by simp) (by first | exact size3 _ _ _ _ | exact size2 _ _ _)).mono ?_
    rintro e w1 ⟨rfl, hr1, hb1⟩
    have HR1 := Aside0.mk hr1
    have HB1 := Aside0.mk (Below.trans (by repeat (first | exact HB.out | apply below_alloc)) hb1)
    clear hr1 hb1
    go_wp2_with fail
    refine (compact_R w.heap.size (fun _ => True) _ (upS [a0_1, a0_2]) _ (by (with_reducible repeat (first | apply Kd.R_alloc | apply Kd.R_drewN | apply Kd.R_drew)); exact HR1.out) (by rw [upS_len]; simp) (by first | exact HB1.out.size | exact (pw_below_drewN HB1.out _).size)).mono ?_
    rintro e w2 ⟨v', rfl, hr2, hb2⟩
    have HR2 := Aside0.mk hr2
    have HB2 := Aside0.mk (Below.trans (by repeat (first | (with_reducible first | exact HB1.out | apply below_alloc | apply pw_below_drewN | apply below_drew1) | exact HB1.out)) hb2)
    clear hr2 hb2
    go_wp2_with fail
    go_ret
    exact ⟨_, rfl, by rw [hl]; (with_reducible repeat (first | apply Kd.R_alloc | apply Kd.R_drewN | apply Kd.R_drew)); exact HR2.out, by repeat (first | (with_reducible first | exact HB2.out | apply below_alloc | apply pw_below_drewN | apply below_drew1) | exact HB2.out)⟩
  · have hl := regs_none (op := a0_0) (a := a0_1) (b := a0_2) (c := a0_3) (by assumption) (by assumption) (by assumption) (by assumption) (by assumption) (by assumption) (by assumption) (by assumption) (by assumption) (by assumption) (by assumption)
    refine (sort_R w.heap.size (fun _ => True) _ ([] : List Int) _ (lit_R _ _ ([] : List Int) _ (by first | exact lit3 _ _ _ _ | exact lit2 _ _ _) (by omega)) (by simp) (by first | exact size3 _ _ _ _ | exact size2 _ _ _)).mono ?_
    rintro e w1 ⟨rfl, hr1, hb1⟩
    have HR1 := Aside0.mk hr1
    have HB1 := Aside0.mk (Below.trans (by repeat (first | exact HB.out | apply below_alloc)) hb1)
    clear hr1 hb1
    go_wp2_with fail
    refine (compact_R w.heap.size (fun _ => True) _ (upS ([] : List Int)) _ (by (with_reducible repeat (first | apply Kd.R_alloc | apply Kd.R_drewN | apply Kd.R_drew)); exact HR1.out) (by rw [upS_len]; simp) (by first | exact HB1.out.size | exact (pw_below_drewN HB1.out _).size)).mono ?_
    rintro e w2 ⟨v', rfl, hr2, hb2⟩
    have HR2 := Aside0.mk hr2
    have HB2 := Aside0.mk (Below.trans (by repeat (first | (with_reducible first | exact HB1.out | apply below_alloc | apply pw_below_drewN | apply below_drew1) | exact HB1.out)) hb2)
    clear hr2 hb2
    go_wp2_with fail
    go_ret
    exact ⟨_, rfl, by rw [hl]; (with_reducible repeat (first | apply Kd.R_alloc | apply Kd.R_drewN | apply Kd.R_drew)); exact HR2.out, by repeat (first | (with_reducible first | exact HB2.out | apply below_alloc | apply pw_below_drewN | apply below_drew1) | exact HB2.out)⟩

end Go.Proofs.Ytopckcppmpmcnaa.Q
