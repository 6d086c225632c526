/- The contracts of slices.Sort and slices.Compact over whole numbers, on a row of the call's own, in the words of the print. -/
import Derived.Test.YtopckcppmpmcnaaKFnExactResidentFor06
import Derived.Sort.OwnSortedInts
namespace Go.Proofs.Ytopckcppmpmcnaa.Q
open Go.RowKit Go.Sort Go.Proofs.YtopckcppmpmcnaaW.PrintWords Go.Proofs.YtopckcppmpmcnaaW.PrintLast Go.Proofs.YtopckcppmpmcnaaW.PrintMore
set_option linter.unusedVariables false
set_option linter.unusedSimpArgs false

def upS (l : List Int) : List Int := l.mergeSort fun x y => decide (x ≤ y)
theorem upS_len (l : List Int) : (upS l).length = l.length := List.length_mergeSort l
theorem sort_R (base : Nat) (ok : Nat → Prop) (v : Value) (l : List Int) (W : World) (hr : Kd.R (Kd.int .i64) 3 W base ok v l) (hl : l.length < 4611686018427387904) (hb : base ≤ W.heap.size) :
    Calls Try.prog 120 #[v] W fun e w' => e = .returned (.tuple #[]) ∧ Kd.R (Kd.int .i64) 3 w' base ok v (upS l) ∧ Below base W w' := by
  have ho := Kd.own_of_R hr
  rcases ho.2 with ⟨rfl, h0⟩ | ⟨g, cap, cur, rfl, hg, hh, h1, h2, h3, h4⟩
  · obtain rfl := List.eq_nil_of_length_eq_zero h0
    refine (Any.slices_Sort_int_none Try.lays189 none 0 W).mono ?_
    rintro e w' ⟨rfl, rfl⟩
    exact ⟨rfl, by simpa [upS] using hr, Below.refl _ _⟩
  · have hH : Holds (Value.int .i64) W g 0 l.toArray := holds_of_blockI hh (by simpa [encs] using h4)
    have hlt : g < W.heap.size := by
      rcases Nat.lt_or_ge g W.heap.size with h | h
      · exact h
      · rw [Array.getElem?_eq_none h] at hh; cases hh
    refine (Any.slices_Sort_int Try.lays189 g 0 cap l W hH hlt hl).mono ?_
    rintro e w' ⟨rfl, n, os, rfl⟩
    have hro := ownsRow_sortedI (n := n) (os := os) (ts := upS l) (ss := l) (upS_len l) hg hh h1 h2 h3
    refine ⟨rfl, Kd.R_of_own (by rw [upS_len]; exact hro) (fun k hk => hr.1 k (by simpa [Value.ownBlock] using hk)), ?_⟩
    exact (Below.refl base W).grown (grownBy_sortedI _) hb (fun j hj => by cases hj; exact hg)
theorem compact_R (base : Nat) (ok : Nat → Prop) (v : Value) (l : List Int) (W : World) (hr : Kd.R (Kd.int .i64) 3 W base ok v l) (hl : l.length < 4611686018427387904) (hb : base ≤ W.heap.size) :
    Calls Try.prog 121 #[v] W fun e w' => ∃ v', e = .returned v' ∧ Kd.R (Kd.int .i64) 3 w' base ok v' (Lib.compact l) ∧ Below base W w' := by
  have ho := Kd.own_of_R hr
  rcases ho.2 with ⟨rfl, h0⟩ | ⟨g, cap, cur, rfl, hg, hh, h1, h2, h3, h4⟩
  · obtain rfl := List.eq_nil_of_length_eq_zero h0
    refine (Any.slices_Compact_int_empty Try.laysNm220 none 0 W).mono ?_
    rintro e w' ⟨rfl, rfl⟩
    exact ⟨_, rfl, hr, Below.refl _ _⟩
  · have hH : Holds (Value.int .i64) W g 0 l.toArray := holds_of_blockI hh (by simpa [encs] using h4)
    have hlt : g < W.heap.size := by
      rcases Nat.lt_or_ge g W.heap.size with h | h
      · exact h
      · rw [Array.getElem?_eq_none h] at hh; cases hh
    refine (Any.slices_Compact_int Try.laysNm220 g 0 cap l W hH (by omega) h1).mono ?_
    rintro e w' ⟨rfl, q, rfl⟩
    have hcl : (Lib.compact l).length ≤ l.length := by
      unfold Lib.compact Lib.compactUpTo
      rw [List.length_map]
      exact Nat.le_trans (List.length_filter_le _ _) (by simp)
    have htl : (Lib.compact l ++ List.replicate (l.length - (Lib.compact l).length) 0).length = l.length := by simp; omega
    have hro := ownsRow_sortedI (n := q) (os := #[]) (ts := Lib.compact l ++ List.replicate (l.length - (Lib.compact l).length) 0) (ss := l) htl hg hh h1 h2 h3
    have hgr := grownBy_sortedI (w := W) (g := g) (n := q) (os := #[]) (Lib.compact l ++ List.replicate (l.length - (Lib.compact l).length) 0).toArray
    rw [grow_empty] at hro hgr
    have hR : Kd.R (Kd.int .i64) 3 (putRow (Value.int .i64) (Sort.ahead W q) g 0 (Lib.compact l ++ List.replicate (l.length - (Lib.compact l).length) 0).toArray) base ok (.slice (some ⟨g, 0, none⟩) (Lib.compact l ++ List.replicate (l.length - (Lib.compact l).length) 0).length cap) (Lib.compact l ++ List.replicate (l.length - (Lib.compact l).length) 0) :=
      Kd.R_of_own (by rw [htl]; exact hro) (fun k hk => hr.1 k (by simpa [Value.ownBlock] using hk))
    have hT := Kd.R_take hR (m := (Lib.compact l).length) (by omega)
    rw [List.take_left'] at hT
    · exact ⟨_, rfl, hT, (Below.refl base W).grown hgr hb (fun j hj => by cases hj; exact hg)⟩
    · rfl

end Go.Proofs.Ytopckcppmpmcnaa.Q
