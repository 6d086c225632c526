/- impl.ParseUint: the number whose numeral the text is, from 0 to 1000000000. -/
import Derived.Test.YthpmdppkladbfaaDoorKFnExactParseAct09
import Derived.Lib.AtoiErrMem
namespace Go.Proofs.YthpmdppkladbfaaDoor.Q
open Go Go.RowKit Go.Proofs.YthpmdppkladbfaaDoorW.PrintWords Go.Proofs.YthpmdppkladbfaaDoorW.PrintLast Go.Proofs.YthpmdppkladbfaaDoorW.PrintMore
set_option linter.unusedVariables false
set_option linter.unusedSimpArgs false

def uintB (s : ByteArray) : Int × Bool := match Lib.atoiAll s.data.toList with
  | .ok v => if inR 0 1000000000 v = true then (if (decB v).toList = s.toList then (v, true) else (0, false)) else (0, false)
  | _ => (0, false)
def impl_ParseUint.f (s : ByteArray) : Option (Int × Bool) := if s.size ≤ 100000 then some (uintB s) else none
set_option maxHeartbeats 2000000 in
set_option maxRecDepth 100000 in
theorem impl_ParseUint.calls (a0 : ByteArray) (r1 : Int) (r2 : Bool) (w : World) (h : impl_ParseUint.f a0 = some (r1, r2)) (htab : PowIs w := by (apply PowIs.on; (refine Aside0.out ?_; assumption); repeat (first | (refine Aside0.out ?_; assumption) | apply below_alloc | apply pw_below_drewN | apply below_drew1 | (refine below_set ?_ (Aside0.out (by assumption)))))) :
    Calls Tryd.prog 27 #[.string a0] w fun e w' => e = .returned (.tuple #[.int .i64 r1, .bool r2]) ∧ Below w.heap.size w w' := by
  have HT := Aside0.mk htab
  have HB := Aside0.mk (Below.refl w.heap.size w)
  unfold impl_ParseUint.f at h
  by_cases hs : a0.size ≤ 100000
  · rw [if_pos hs] at h
    have h := Option.some.inj h
    unfold uintB at h
    cases hA : Lib.atoiAll a0.data.toList with
    | ok v =>
      rw [hA] at h
      simp only at h
      have HC := Aside0.mk (fun W => Any.strconv_Atoi_ok Tryd.laysAtoi a0 (by omega) v hA W)
      by_cases c1 : inR 0 1000000000 v = true
      · rw [if_pos c1] at h
        have HW := Aside0.mk (fun W => impl_within.calls v 0 1000000000 true W (by rw [within_f, c1]))
        have HF := Aside0.mk (fun W (hh : PowIs W) => impl_FormatInt.calls v (decB v) W (by unfold impl_FormatInt.f; rw [inR_iff] at c1; rw [if_pos (by omega)]; rfl) hh)
        by_cases c2 : (decB v).toList = a0.toList
        · rw [if_pos c2] at h
          have c2b : ((decB v).toList == a0.toList) = true := beq_iff_eq.mpr c2
          simp only [Prod.mk.injEq] at h
          obtain ⟨rfl, rfl⟩ := h
          clear hs htab hA c1
          go_enter Tryd.func27, Tryd.ntmps27
          go_wp2_with fail
          refine (HC.out _).mono ?_
          rintro e w1 ⟨rfl, hw1⟩
          have hb : Below w.heap.size w w1 := by
            rcases hw1 with rfl | ⟨t, rfl⟩
            · exact (by repeat (first | (with_reducible first | exact HB.out | apply below_alloc | apply pw_below_drewN | apply below_drew1) | exact HB.out))
            · exact below_step (by repeat (first | (with_reducible first | exact HB.out | apply below_alloc | apply pw_below_drewN | apply below_drew1) | exact HB.out)) (Lib.bytesWorld_below _ _ t)
          have HB2 := Aside0.mk hb
          clear hb hw1
          go_wp2_with fail
          refine (HW.out _).mono ?_
          rintro e w2 ⟨rfl, ⟨nd, rfl⟩⟩
          go_wp2_with fail
          refine (HF.out _ (PowIs.on HT.out (by repeat (first | (with_reducible first | exact HB2.out | apply below_alloc | apply pw_below_drewN | apply below_drew1) | exact HB2.out)))).mono ?_
          rintro e w3 ⟨rfl, hb⟩
          have HB3 := Aside0.mk (below_step (by repeat (first | (with_reducible first | exact HB2.out | apply below_alloc | apply pw_below_drewN | apply below_drew1) | exact HB2.out)) hb)
          clear hb
          go_wp2_with fail
          go_ret2
          exact ⟨rfl, by repeat (first | (with_reducible first | exact HB3.out | apply below_alloc | apply pw_below_drewN | apply below_drew1) | exact HB3.out)⟩
        · rw [if_neg c2] at h
          have c2b : ((decB v).toList == a0.toList) = false := beq_eq_false_iff_ne.mpr c2
          simp only [Prod.mk.injEq] at h
          obtain ⟨rfl, rfl⟩ := h
          clear hs htab hA c1
          go_enter Tryd.func27, Tryd.ntmps27
          go_wp2_with fail
          refine (HC.out _).mono ?_
          rintro e w1 ⟨rfl, hw1⟩
          have hb : Below w.heap.size w w1 := by
            rcases hw1 with rfl | ⟨t, rfl⟩
            · exact (by repeat (first | (with_reducible first | exact HB.out | apply below_alloc | apply pw_below_drewN | apply below_drew1) | exact HB.out))
            · exact below_step (by repeat (first | (with_reducible first | exact HB.out | apply below_alloc | apply pw_below_drewN | apply below_drew1) | exact HB.out)) (Lib.bytesWorld_below _ _ t)
          have HB2 := Aside0.mk hb
          clear hb hw1
          go_wp2_with fail
          refine (HW.out _).mono ?_
          rintro e w2 ⟨rfl, ⟨nd, rfl⟩⟩
          go_wp2_with fail
          refine (HF.out _ (PowIs.on HT.out (by repeat (first | (with_reducible first | exact HB2.out | apply below_alloc | apply pw_below_drewN | apply below_drew1) | exact HB2.out)))).mono ?_
          rintro e w3 ⟨rfl, hb⟩
          have HB3 := Aside0.mk (below_step (by repeat (first | (with_reducible first | exact HB2.out | apply below_alloc | apply pw_below_drewN | apply below_drew1) | exact HB2.out)) hb)
          clear hb
          go_wp2_with fail
          go_ret2
          exact ⟨rfl, by repeat (first | (with_reducible first | exact HB3.out | apply below_alloc | apply pw_below_drewN | apply below_drew1) | exact HB3.out)⟩
      · rw [if_neg c1] at h
        simp only [Prod.mk.injEq] at h
        obtain ⟨rfl, rfl⟩ := h
        have HW := Aside0.mk (fun W => impl_within.calls v 0 1000000000 false W (by rw [within_f, Bool.eq_false_iff.mpr c1]))
        clear hs htab hA c1
        go_enter Tryd.func27, Tryd.ntmps27
        go_wp2_with fail
        refine (HC.out _).mono ?_
        rintro e w1 ⟨rfl, hw1⟩
        have hb : Below w.heap.size w w1 := by
          rcases hw1 with rfl | ⟨t, rfl⟩
          · exact (by repeat (first | (with_reducible first | exact HB.out | apply below_alloc | apply pw_below_drewN | apply below_drew1) | exact HB.out))
          · exact below_step (by repeat (first | (with_reducible first | exact HB.out | apply below_alloc | apply pw_below_drewN | apply below_drew1) | exact HB.out)) (Lib.bytesWorld_below _ _ t)
        have HB2 := Aside0.mk hb
        clear hb hw1
        go_wp2_with fail
        refine (HW.out _).mono ?_
        rintro e w2 ⟨rfl, ⟨nd, rfl⟩⟩
        go_wp2_with fail
        go_ret2
        exact ⟨rfl, by repeat (first | (with_reducible first | exact HB2.out | apply below_alloc | apply pw_below_drewN | apply below_drew1) | exact HB2.out)⟩
    | «syntax» =>
      rw [hA] at h
      simp only [Prod.mk.injEq] at h
      obtain ⟨rfl, rfl⟩ := h
      obtain ⟨tp, p, hv⟩ := htab.syn
      have HC := Aside0.mk (fun (W : World) hv => Any.strconv_Atoi_syntax_var Tryd.laysAtoi a0 (by omega) hA tp p W hv)
      have HV := Aside0.mk hv
      clear hs htab hA hv
      go_enter Tryd.func27, Tryd.ntmps27
      go_wp2_with fail
      refine (HC.out _ (by first | exact HV.out | (rw [show ∀ W : World, W.drew.var? Tryd.prog "strconv.ErrSyntax" = W.var? Tryd.prog "strconv.ErrSyntax" from fun _ => rfl]; exact HV.out))).mono ?_
      rintro e w1 ⟨N, rfl, hN, hNe, hb⟩
      have HB2 := Aside0.mk (below_step (by repeat (first | (with_reducible first | exact HB.out | apply below_alloc | apply pw_below_drewN | apply below_drew1) | exact HB.out)) hb)
      clear hb hN hNe
      go_wp2_with fail
      go_ret2
      exact ⟨rfl, by repeat (first | (with_reducible first | exact HB2.out | apply below_alloc | apply pw_below_drewN | apply below_drew1) | exact HB2.out)⟩
    | range =>
      rw [hA] at h
      simp only [Prod.mk.injEq] at h
      obtain ⟨rfl, rfl⟩ := h
      obtain ⟨tp, p, hv⟩ := htab.rng
      have HC := Aside0.mk (fun (W : World) hv => Any.strconv_Atoi_range_var Tryd.laysAtoi a0 (by omega) hA tp p W hv)
      have HV := Aside0.mk hv
      clear hs htab hA hv
      go_enter Tryd.func27, Tryd.ntmps27
      go_wp2_with fail
      refine (HC.out _ (by first | exact HV.out | (rw [show ∀ W : World, W.drew.var? Tryd.prog "strconv.ErrRange" = W.var? Tryd.prog "strconv.ErrRange" from fun _ => rfl]; exact HV.out))).mono ?_
      rintro e w1 ⟨N, rfl, hN, hNe, hb⟩
      have HB2 := Aside0.mk (below_step (by repeat (first | (with_reducible first | exact HB.out | apply below_alloc | apply pw_below_drewN | apply below_drew1) | exact HB.out)) hb)
      clear hb hN hNe
      go_wp2_with fail
      go_ret2
      exact ⟨rfl, by repeat (first | (with_reducible first | exact HB2.out | apply below_alloc | apply pw_below_drewN | apply below_drew1) | exact HB2.out)⟩
  · rw [if_neg hs] at h
    exact absurd h (by simp)

end Go.Proofs.YthpmdppkladbfaaDoor.Q
