/- The contract of impl.SortedTimes in the printed form: by slices.Clone and by the shelf's contract of slices.SortFunc. -/
import Derived.Test.YtopckcppmpmcnaaKFnLaunches10
import Derived.Shelf.SlSortCmp.NoneTotal
import Derived.Sort.OwnSortedInts
namespace Go.Proofs.Ytopckcppmpmcnaa.Q
open Go.RowKit Go.Shelf Go.Sort Go.Proofs.YtopckcppmpmcnaaW.PrintWords Go.Proofs.YtopckcppmpmcnaaW.PrintLast Go.Proofs.YtopckcppmpmcnaaW.PrintMore
set_option linter.unusedVariables false
set_option linter.unusedSimpArgs false

/-- The comparison: cmp.Compare(b, a). -/
def cfD (x y : Int) : Int := if y < x then -1 else if x < y then 1 else 0
theorem cfD_f (x y : Int) : impl_SortedTimes_1.f x y = some (cfD x y) := by
  unfold impl_SortedTimes_1.f cmp_Compare_int.f cmp_isNaN_int.f cfD
  simp
  split
  · rfl
  · split <;> rfl
theorem ltD (x y : Int) : ltOf cfD x y = decide (y < x) := by
  unfold ltOf cfD
  by_cases h1 : y < x
  · simp [h1]
  · by_cases h2 : x < y <;> simp [h1, h2]
theorem swoD : SWO (ltOf cfD) where
  irrefl x := by rw [ltD]; simp
  trans x y z h1 h2 := by rw [ltD] at *; simp at *; omega
  ntrans x y z h1 h2 := by rw [ltD] at *; simp at *; omega
theorem totD (x y : Int) (h1 : ltOf cfD x y = false) (h2 : ltOf cfD y x = false) : x = y := by rw [ltD] at *; simp at *; omega
theorem geD : (fun x y : Int => !ltOf cfD y x) = fun x y => decide (y ≤ x) := by
  funext x y
  rw [ltD]
  by_cases h : y ≤ x
  · have h' : ¬ x < y := by omega
    simp [h, h']
  · have h' : x < y := by omega
    simp [h, h']
def downS (l : List Int) : List Int := l.mergeSort fun x y => decide (y ≤ x)
theorem downS_len (l : List Int) : (downS l).length = l.length := List.length_mergeSort l
theorem cmpReadsD (blk off size : Nat) (w : World) : CmpReads Try.prog 97 #[] (Value.int .i64) cfD blk off size w := fun m os dk hs x y =>
  (impl_SortedTimes_1.calls x y (cfD x y) _ (cfD_f x y)).mono fun _ _ ⟨he, n, hw⟩ => ⟨he, n, hw⟩
theorem sortD_R (base : Nat) (ok : Nat → Prop) (v : Value) (l : List Int) (W : World) (hr : Kd.R (Kd.int .i64) 3 W base ok v l) (hl : l.length < 4611686018427387904) (hb : base ≤ W.heap.size) :
    Calls Try.prog 96 #[v, .func (.func 97) #[] #[]] W fun e w' => e = .returned (.tuple #[]) ∧ Kd.R (Kd.int .i64) 3 w' base ok v (downS l) ∧ Below base W w' := by
  have eg : ∀ args w, (callFunc 97 args).run Try.prog w = .ok (.enter 97 args) w := enters Try.func97 (by kernel_rfl) rfl
  have ho := Kd.own_of_R hr
  rcases ho.2 with ⟨rfl, h0⟩ | ⟨g, cap, cur, rfl, hg, hh, h1, h2, h3, h4⟩
  · obtain rfl := List.eq_nil_of_length_eq_zero h0
    refine (AnyF.slices_SortFunc_none (P := Try.prog) (ρ := Try.sortL_ren) { Try.sortL with } none 0 (.func (.func 97) #[] #[]) W).mono ?_
    rintro e w' ⟨rfl, rfl⟩
    exact ⟨rfl, by simpa [downS] using hr, Below.refl _ _⟩
  · have hH : Holds (Value.int .i64) W g 0 l.toArray := holds_of_blockI hh (by simpa [encs] using h4)
    have hlt : g < W.heap.size := by
      rcases Nat.lt_or_ge g W.heap.size with h | h
      · exact h
      · rw [Array.getElem?_eq_none h] at hh; cases hh
    have hS := Any.slices_SortFunc_total Try.sortL (Value.int .i64) (fun _ => rfl) cfD swoD 97 #[] g 0 cap l.toArray W eg (cmpReadsD g 0 l.toArray.size W).lays hH hlt (by simpa using hl) totD
    rw [geD] at hS
    refine hS.mono ?_
    rintro e w' ⟨rfl, n, os, rfl⟩
    have hro := ownsRow_sortedI (n := n) (os := os) (ts := downS l) (ss := l) (downS_len l) hg hh h1 h2 h3
    refine ⟨rfl, Kd.R_of_own (by rw [downS_len]; exact hro) (fun k hk => hr.1 k (by simpa [Value.ownBlock] using hk)), ?_⟩
    exact (Below.refl base W).grown (grownBy_sortedI _) hb (fun j hj => by cases hj; exact hg)

def impl_SortedTimes.f (l0 : List Int) : Option (List Int) := (impl_TimesOk.f l0).bind fun t => if t = true then some (downS l0) else some []
set_option maxHeartbeats 2000000 in
set_option maxRecDepth 100000 in
theorem impl_SortedTimes.calls (A0 : Option Addr) (c0 : Nat) (l0 : List Int) (r : List Int) (w : World) (hr0 : Kd.C (Kd.int .i64) w A0 l0.length l0) (hc0 : l0.length ≤ c0) (h : impl_SortedTimes.f l0 = some r) :
    Calls Try.prog 60 #[.slice A0 l0.length c0] w fun e w' => ∃ v0_ : Value, e = .returned (v0_) ∧ Kd.R (Kd.int .i64) 3 w' w.heap.size (fun _ => True) v0_ r ∧ Below w.heap.size w w' := by
  have HR := Aside0.mk hr0
  have HB := Aside0.mk (Below.refl w.heap.size w)
  obtain ⟨t, ht, h⟩ := Option.bind_eq_some_iff.mp h
  have HT := Aside0.mk (fun W hr => impl_TimesOk.calls A0 c0 l0 t W hr hc0 ht)
  have hn : t = true → l0.length ≤ 60 := by
    intro e
    unfold impl_TimesOk.f at ht
    have := Option.some.inj ht
    rw [e] at this
    simp only [Bool.and_eq_true, decide_eq_true_eq] at this
    exact this.1
  cases t with
  | true =>
    rw [if_pos rfl] at h
    obtain rfl := Option.some.inj h
    have hn := hn rfl
    have HK := Aside0.mk (fun W hr => slices_Clone_int_int.calls A0 c0 l0 l0 W hr hc0 (by unfold slices_Clone_int_int.f; rw [if_pos (by omega)]))
    have HL := Aside0.mk hn
    clear h ht hr0 hn
    go_enter Try.func60, Try.ntmps60
    go_wp2_with fail
    refine (HT.out _ (by first | exact HR.out | exact Kd.C_below HR.out (Drawn0.below ⟨⟨_, rfl⟩⟩))).mono ?_
    rintro e w1 ⟨rfl, ⟨nd, rfl⟩⟩
    go_wp2_with fail
    refine (HK.out _ (Kd.C_below HR.out (by repeat (first | (with_reducible first | exact HB.out | apply below_alloc | apply pw_below_drewN | apply below_drew1) | exact HB.out)))).mono ?_
    rintro e w2 ⟨v, rfl, hr2, hb2⟩
    have HR2 := Aside0.mk (Kd.R_lower hr2 (below_size (by repeat (first | (with_reducible first | exact HB.out | apply below_alloc | apply pw_below_drewN | apply below_drew1) | exact HB.out))))
    have HB2 := Aside0.mk (below_step (by repeat (first | (with_reducible first | exact HB.out | apply below_alloc | apply pw_below_drewN | apply below_drew1) | exact HB.out)) hb2)
    clear hr2 hb2
    go_wp2_with fail
    refine (sortD_R w.heap.size (fun _ => True) v l0 _ (by (with_reducible repeat (first | apply Kd.R_alloc | apply Kd.R_drewN | apply Kd.R_drew)); exact HR2.out) (by have := HL.out; omega) (by first | exact HB2.out.size | exact (pw_below_drewN HB2.out _).size)).mono ?_
    rintro e w3 ⟨rfl, hr3, hb3⟩
    have HR3 := Aside0.mk hr3
    have HB3 := Aside0.mk (Below.trans (by repeat (first | (with_reducible first | exact HB2.out | apply below_alloc | apply pw_below_drewN | apply below_drew1) | exact HB2.out)) hb3)
    clear hr3 hb3
    go_wp2_with fail
    go_ret
    exact ⟨_, rfl, by (with_reducible repeat (first | apply Kd.R_alloc | apply Kd.R_drewN | apply Kd.R_drew)); exact HR3.out, by repeat (first | (with_reducible first | exact HB3.out | apply below_alloc | apply pw_below_drewN | apply below_drew1) | exact HB3.out)⟩
  | false =>
    rw [if_neg (by simp)] at h
    obtain rfl := Option.some.inj h
    clear h ht hr0 hn
    go_enter Try.func60, Try.ntmps60
    go_wp2_with fail
    refine (HT.out _ (by first | exact HR.out | exact Kd.C_below HR.out (Drawn0.below ⟨⟨_, rfl⟩⟩))).mono ?_
    rintro e w1 ⟨rfl, ⟨nd, rfl⟩⟩
    go_wp2_with fail
    go_ret
    exact ⟨_, rfl, Kd.R_nil _ _ _ _ _, by repeat (first | (with_reducible first | exact HB.out | apply below_alloc | apply pw_below_drewN | apply below_drew1) | exact HB.out)⟩

end Go.Proofs.Ytopckcppmpmcnaa.Q
