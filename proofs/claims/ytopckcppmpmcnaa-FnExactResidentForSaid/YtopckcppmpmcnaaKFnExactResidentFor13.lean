/- The contracts of impl.board's methods and of impl.IssueTimes: the board is a row of numbers in a block of the caller's own. -/
import Derived.Test.YtopckcppmpmcnaaKFnExactResidentFor12
import Derived.Deep.RegionWith
namespace Go.Proofs.Ytopckcppmpmcnaa.Q
open Go.RowKit Go.Proofs.YtopckcppmpmcnaaW.PrintWords Go.Proofs.YtopckcppmpmcnaaW.PrintLast Go.Proofs.YtopckcppmpmcnaaW.PrintMore
set_option linter.unusedVariables false
set_option linter.unusedSimpArgs false

/-- A block that holds just these numbers, in arrays of four. -/
def Flat (W : World) (g : Nat) (l : List Int) : Prop := W.heap[g]? = some (.cells (l.map (Value.int .i64)).toArray 70 (0, 0))
theorem Flat.cell {W : World} {g : Nat} {l : List Int} (h : Flat W g l) (o : Nat) (r : Int) (h0 : 0 ≤ r) (h1 : o + r.toNat < l.length) : W.cell? ⟨g, o + r.toNat, none⟩ = some (.int .i64 (rd l (o + r))) := by
  unfold Flat at h
  unfold World.cell?
  have e : ((o : Int) + r).toNat = o + r.toNat := by omega
  simp [h, rd, List.getD_eq_getElem?_getD, h1, e]
theorem Flat.frozen {W : World} {g : Nat} {l : List Int} (h : Flat W g l) (o : Nat) : W.frozen? ⟨g, o, none⟩ = false := by
  unfold Flat at h
  unfold World.frozen?
  simp [h]
theorem Flat.set {W : World} {g : Nat} {l : List Int} (h : Flat W g l) (o : Nat) (v : Int) : Flat (W.setCell ⟨g, o, none⟩ (.int .i64 v)) g (l.set o v) := by
  unfold Flat at h ⊢
  unfold World.setCell
  simp only [Array.getElem?_modify, h]
  simp [List.map_set]
theorem Flat.lt {W : World} {g : Nat} {l : List Int} (h : Flat W g l) : g < W.heap.size := by
  rcases Nat.lt_or_ge g W.heap.size with h' | h'
  · exact h'
  · unfold Flat at h
    rw [Array.getElem?_eq_none h'] at h; cases h
theorem Flat.drew {W : World} {g : Nat} {l : List Int} (h : Flat W g l) : Flat W.drew g l := h
theorem size_al' (w : World) (o : Obj) : (w.alloc o).heap.size = w.heap.size + 1 := Array.size_push _
theorem Flat.below {W W1 : World} {g : Nat} {l : List Int} (h : Flat W g l) (hb : Below W.heap.size W W1) : Flat W1 g l := by
  have := h.lt
  unfold Flat at h ⊢
  rw [hb.block g this]; exact h
theorem grown_below {w w1 w2 : World} {g : Nat} (hb : Below w.heap.size w w1) (hg : w1.grownBy w2 (some g)) : w.grownBy w2 (some g) :=
  ⟨hg.os.trans hb.os, hg.tape.trans hb.tape, hg.output.trans hb.output, Nat.le_trans hb.size hg.size, fun k hk hne => (hg.block k (Nat.lt_of_lt_of_le hk hb.size) hne).trans (hb.block k hk)⟩
theorem grown_set (W : World) (g o : Nat) (v : Value) : W.grownBy (W.setCell ⟨g, o, none⟩ v) (some g) :=
  ⟨rfl, rfl, rfl, by simp [World.setCell], fun k hk hne => by
    have : k ≠ g := fun e => hne (by rw [e])
    exact Below.heap_setCell _ _ _ _ (by simpa using this)⟩

theorem mx_max (a b : Int) : max a b = mx a b := by unfold mx; split <;> omega
def readyZ (l : List Int) (o : Nat) (u : List Int) : Int := u.foldl (fun c x => mx c (rd l (o + x))) 0
def board_ready.f (l : List Int) (o : Nat) (a0 a1 a2 a3 : Int) : Option Int := (impl_usedBy.f a0 a1 a2 a3).bind fun u => if u.all (inR 0 3) = true then some (readyZ l o u) else none
theorem readyZ_snoc (l : List Int) (o : Nat) (u : List Int) (k : Nat) (h : k < u.length) : readyZ l o (u.take (k + 1)) = mx (readyZ l o (u.take k)) (rd l (o + rd u (k : Int))) := by
  unfold readyZ
  rw [List.take_add_one, List.foldl_append]
  simp [rd, List.getD_eq_getElem?_getD, h]
set_option maxHeartbeats 2000000 in
set_option maxRecDepth 100000 in
theorem board_ready.calls (g o : Nat) (l : List Int) (a0 a1 a2 a3 : Int) (r : Int) (w : World) (hf : Flat w g l) (ho : o + 4 ≤ l.length) (h : board_ready.f l o a0 a1 a2 a3 = some r) :
    Calls Try.prog 77 #[.pointer (some ⟨g, o, none⟩), .agg #[.int .i64 a0, .int .i64 a1, .int .i64 a2, .int .i64 a3]] w fun e w' => e = .returned (.int .i64 r) ∧ Below w.heap.size w w' := by
  obtain ⟨u, hu, h⟩ := Option.bind_eq_some_iff.mp h
  by_cases hin : u.all (inR 0 3) = true
  · rw [if_pos hin] at h
    obtain rfl := Option.some.inj h
    have HIN := Aside0.mk hin
    have HF := Aside0.mk hf
    have HO := Aside0.mk ho
    have HU := Aside0.mk (fun W => impl_usedBy.calls a0 a1 a2 a3 u W hu)
    have HB := Aside0.mk (Below.refl w.heap.size w)
    clear hin hf ho hu h
    have hu45 := Try.underlying45
    go_enter Try.func77, Try.ntmps77
    go_wp2_with fail
    refine (HU.out _).mono ?_
    rintro e w1 ⟨v, rfl, hr1, hb1⟩
    have HB1 := Aside0.mk (below_step (by repeat (first | (with_reducible first | exact HB.out | apply below_alloc | apply pw_below_drewN | apply below_drew1) | exact HB.out)) hb1)
    have HR1 := Aside0.mk (Kd.R_lower hr1 (below_size (by repeat (first | (with_reducible first | exact HB.out | apply below_alloc | apply pw_below_drewN | apply below_drew1) | exact HB.out))))
    clear hr1 hb1
    obtain ⟨Ao, co, eo⟩ := Kd.R_slice HR1.out
    subst eo
    go_wp2_with fail
    go_loopw [5, 11] (fun c i wr => ∃ (x : Int) (k : Nat), c = .int .i64 (readyZ l o (u.take k)) ∧ i = .int .i64 x ∧ Aside0 (x = k) ∧ Aside0 (k ≤ u.length) ∧ Aside0 (Kd.R (Kd.int .i64) 3 wr w.heap.size (fun _ => True) (.slice Ao u.length co) u) ∧ Aside0 (Below w.heap.size w wr))
      (fun _ i _ => u.length - (intOf i).toNat)
    case atStart => exact ⟨0, 0, rfl, rfl, ⟨rfl⟩, ⟨Nat.zero_le _⟩, ⟨by (with_reducible repeat (first | apply Kd.R_alloc | apply Kd.R_drewN | apply Kd.R_drew)); exact HR1.out⟩, ⟨by repeat (first | (with_reducible first | exact HB1.out | apply below_alloc | apply pw_below_drewN | apply below_drew1) | exact HB1.out)⟩⟩
    case round =>
      obtain ⟨x, k, rfl, rfl, HX, HK, HR, HB⟩ := hrel
      have HU := Aside0.mk (show u.length ≤ 9223372036854775807 from (Kd.R_reads' HR.out).2.2.2.1)
      by_cases hlt : k < u.length
      · have p1 : 0 ≤ x := by have := HX.out; omega
        have q1 : x < (u.length : Int) := by have := HX.out; omega
        have c1 : decide (x < (u.length : Int)) = true := decide_eq_true q1
        obtain ⟨ad1, e1, hx1⟩ := Kd.at_int (Kd.R_reads' HR.out).2.2 x p1 q1
        cases e1
        have hm : rd u x ∈ u := by
          have hk : x.toNat < u.length := by omega
          simp [rd, List.getD_eq_getElem?_getD, hk]
        obtain ⟨p2, q2⟩ := (inR_iff _ _ _).1 (List.all_eq_true.1 HIN.out _ hm)
        have hx2 := ((HF.out).below HB.out).cell o (rd u x) p2 (by have := HO.out; omega)
        have q3 : rd u x < 4 := by omega
        have HLT := Aside0.mk hlt
        have HS := Aside0.mk (readyZ_snoc l o u k hlt)
        have c2 : decide (0 ≤ rd u x) = true := decide_eq_true p2
        have c3 : decide (rd u x < 4) = true := decide_eq_true q3
        clear hm q2 hlt
        obtain ⟨mz, hmz⟩ : ∃ z, mx (readyZ l o (u.take k)) (rd l (↑o + rd u x)) = z := ⟨_, rfl⟩
        have HMZ := Aside0.mk hmz
        clear hmz
        replace p1 := eq_true p1
        replace q1 := eq_true q1
        go_wp2
        go_roundw
        case measure => have := HLT.out; have := HX.out; have := HU.out; simp only [intOf]; unfold wrap64; omega
        case rel => exact ⟨_, k + 1, by rw [HS.out, ← HX.out, mx_max], rfl, ⟨by have := HLT.out; have := HX.out; have := HU.out; unfold wrap64; omega⟩, ⟨HLT.out⟩, ⟨by (with_reducible repeat (first | apply Kd.R_alloc | apply Kd.R_drewN | apply Kd.R_drew)); exact HR.out⟩, ⟨by repeat (first | (with_reducible first | exact HB.out | apply below_alloc | apply pw_below_drewN | apply below_drew1) | exact HB.out)⟩⟩
      · have c1 : decide (x < (u.length : Int)) = false := decide_eq_false (by have := HX.out; omega)
        have hk : u.take k = u := List.take_of_length_le (by omega)
        have HT := Aside0.mk hk
        clear hlt hk
        go_wp2
        go_ret
        exact ⟨by first | rfl | (rw [HT.out]; rfl), HB.out⟩
  · rw [if_neg hin] at h; cases h

def board_issue.f (l : List Int) (o : Nat) (a0 a1 a2 a3 cyc : Int) : Option (List Int) :=
  (impl_WritesReg.f a0 a1 a2 a3).bind fun x => if x ≥ 0 then (if x < 4 then (impl_LatencyOf.f a0 a1 a2 a3).bind fun t => some (l.set (o + x.toNat) (wrap64 (cyc + t))) else none) else some l
set_option maxHeartbeats 2000000 in
set_option maxRecDepth 100000 in
theorem board_issue.calls (g o : Nat) (l : List Int) (a0 a1 a2 a3 cyc : Int) (r : List Int) (w : World) (hf : Flat w g l) (ho : o + 4 ≤ l.length) (h : board_issue.f l o a0 a1 a2 a3 cyc = some r) :
    Calls Try.prog 78 #[.pointer (some ⟨g, o, none⟩), .agg #[.int .i64 a0, .int .i64 a1, .int .i64 a2, .int .i64 a3], .int .i64 cyc] w fun e w' => e = .returned (.tuple #[]) ∧ Flat w' g r ∧ w.grownBy w' (some g) := by
  obtain ⟨x, hx, h⟩ := Option.bind_eq_some_iff.mp h
  have HF := Aside0.mk hf
  have HO := Aside0.mk ho
  have HW := Aside0.mk (fun W => impl_WritesReg.calls a0 a1 a2 a3 x W hx)
  have HB := Aside0.mk (Below.refl w.heap.size w)
  clear hf ho hx
  have hu45 := Try.underlying45
  by_cases h0 : x ≥ 0
  · rw [if_pos h0] at h
    by_cases h1 : x < 4
    · rw [if_pos h1] at h
      obtain ⟨t, ht, h⟩ := Option.bind_eq_some_iff.mp h
      obtain rfl := Option.some.inj h
      have HL := Aside0.mk (fun W => impl_LatencyOf.calls a0 a1 a2 a3 t W ht)
      clear h ht
      have c0 : decide (0 ≤ x) = true := decide_eq_true h0
      have c1 : decide (x < 4) = true := decide_eq_true h1
      go_enter Try.func78, Try.ntmps78
      go_wp2_with fail
      refine (HW.out _).mono ?_
      rintro e w1 ⟨rfl, hb1⟩
      have HB1 := Aside0.mk (below_step (by repeat (first | (with_reducible first | exact HB.out | apply below_alloc | apply pw_below_drewN | apply below_drew1) | exact HB.out)) hb1)
      have hbk : w1.heap[w.heap.size]? = some (.cells #[.int .i64 a0, .int .i64 a1, .int .i64 a2, .int .i64 a3] 45 (0, 0)) := (hb1.block _ (by rw [size_al']; omega)).trans (blk_new w _)
      have hi0 : w1.cell? ⟨w.heap.size, 0, none⟩ = some (.int .i64 a0) := (blk_cell hbk 0).trans rfl
      have hi1 : w1.cell? ⟨w.heap.size, 1, none⟩ = some (.int .i64 a1) := (blk_cell hbk 1).trans rfl
      have hi2 : w1.cell? ⟨w.heap.size, 2, none⟩ = some (.int .i64 a2) := (blk_cell hbk 2).trans rfl
      have hi3 : w1.cell? ⟨w.heap.size, 3, none⟩ = some (.int .i64 a3) := (blk_cell hbk 3).trans rfl
      clear hb1 hbk
      go_wp2_with fail
      go_region_with (go_at_call 45; refine (HL.out _).mono ?_; rintro e w2 ⟨rfl, hb2⟩; have HF2 := ((((HF.out).below HB1.out).drew).below hb2); have HB2 := Aside0.mk (below_step (by repeat (first | (with_reducible first | exact HB1.out | apply below_alloc | apply pw_below_drewN | apply below_drew1) | exact HB1.out)) hb2); have h3 := HF2.cell o x h0 (by have := HO.out; omega); have h4 := HF2.frozen (o + x.toNat); have HF3 := Aside0.mk HF2; clear HF2 hb2)
      go_end0
      exact ⟨rfl, by rw [i64_w]; exact (HF3.out).set _ _, grown_below HB2.out (grown_set _ _ _ _)⟩
    · rw [if_neg h1] at h; cases h
  · rw [if_neg h0] at h
    obtain rfl := Option.some.inj h
    have c0 : decide (0 ≤ x) = false := decide_eq_false (by omega)
    go_enter Try.func78, Try.ntmps78
    go_wp2_with fail
    refine (HW.out _).mono ?_
    rintro e w1 ⟨rfl, hb1⟩
    have HB1 := Aside0.mk (below_step (by repeat (first | (with_reducible first | exact HB.out | apply below_alloc | apply pw_below_drewN | apply below_drew1) | exact HB.out)) hb1)
    clear hb1
    go_wp2_with fail
    go_end0
    exact ⟨rfl, (HF.out).below HB1.out, HB1.out.os, HB1.out.tape, HB1.out.output, HB1.out.size, fun k hk _ => HB1.out.block k hk⟩

theorem grown4 (W : World) (g : Nat) (a b c d : Value) : W.grownBy ((((W.setCell ⟨g, 0, none⟩ a).setCell ⟨g, 1, none⟩ b).setCell ⟨g, 2, none⟩ c).setCell ⟨g, 3, none⟩ d) (some g) :=
  ⟨rfl, rfl, rfl, by simp [World.setCell], fun k hk hne => by
    have : k ≠ g := fun e => hne (by rw [e])
    rw [Below.heap_setCell _ _ _ _ (by simpa using this), Below.heap_setCell _ _ _ _ (by simpa using this), Below.heap_setCell _ _ _ _ (by simpa using this), Below.heap_setCell _ _ _ _ (by simpa using this)]⟩
theorem box4 {W : World} {g : Nat} {t : TypeId} {z0 z1 z2 z3 : Value} (h : W.heap[g]? = some (.cells #[z0, z1, z2, z3] t (0, 0))) (a b c d : Value) :
    ((((W.setCell ⟨g, 0, none⟩ a).setCell ⟨g, 1, none⟩ b).setCell ⟨g, 2, none⟩ c).setCell ⟨g, 3, none⟩ d).heap[g]? = some (.cells #[a, b, c, d] t (0, 0)) :=
  blk_put (cs := #[a, b, c, z3]) (blk_put (cs := #[a, b, z2, z3]) (blk_put (cs := #[a, z1, z2, z3]) (blk_put h 0 a rfl) 1 b rfl) 2 c rfl) 3 d rfl
theorem Flat.grown {W W1 : World} {g h : Nat} {l : List Int} (hf : Flat W g l) (hg : W.grownBy W1 (some h)) (hne : g ≠ h) : Flat W1 g l :=
  (hg.block g hf.lt (fun e => hne (by simpa using e))).trans hf
theorem Flat.appended {W W1 : World} {g : Nat} {l : List Int} {v : Value} (hf : Flat W g l) (hne : some g ≠ v.ownBlock) (hg : W.grownBy W1 v.ownBlock) : Flat W1 g l := (hg.block g hf.lt hne).trans hf
theorem R_grown {α : Type} {d : Kd α} {e : Nat} {W W1 : World} {base : Nat} {v : Value} {xs : List α} {g t : Nat} {cells : Array Value} (h : d.R e W base (fun _ => True) v xs) (hb : W.heap[g]? = some (.cells cells t (0, 0))) (ht : ∀ q, q ∈ e :: d.E → q ≠ t) (hg : W.grownBy W1 (some g)) : d.R e W1 base (fun _ => True) v xs :=
  Kd.R_mono (Kd.R_step (Kd.R_types h hb ht) (fun k ho hk => hg.block k hk (fun e => ho.2 (by simpa using e)))) (fun _ _ => trivial)
theorem litA (w : World) (o1 o : Obj) : ((w.alloc o1).alloc o).heap[w.heap.size]? = some o1 := by
  rw [Below.heap_alloc _ _ _ (by rw [size_al']; omega)]; exact blk_new w o1
end Go.Proofs.Ytopckcppmpmcnaa.Q
