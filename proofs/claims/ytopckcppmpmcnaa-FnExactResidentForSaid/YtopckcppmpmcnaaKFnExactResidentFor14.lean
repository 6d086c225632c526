/- The contracts of (*impl.issuing).choose: the warps' boards and places in blocks of the call's own. -/
import Derived.Test.YtopckcppmpmcnaaKFnExactResidentFor13
import Derived.Deep.RegionHeld3
namespace Go.Proofs.Ytopckcppmpmcnaa.Q
open Go.RowKit Go.Proofs.YtopckcppmpmcnaaW.PrintWords Go.Proofs.YtopckcppmpmcnaaW.PrintLast Go.Proofs.YtopckcppmpmcnaaW.PrintMore
set_option linter.unusedVariables false
set_option linter.unusedSimpArgs false

/-- A block of whole numbers. -/
def Nums (W : World) (g : Nat) (l : List Int) : Prop := W.heap[g]? = some (.cells (l.map (Value.int .i64)).toArray 3 (0, 0))
theorem Nums.cell {W : World} {g : Nat} {l : List Int} (h : Nums W g l) (r : Int) (h0 : 0 ≤ r) (h1 : r < (l.length : Int)) : W.cell? ⟨g, r.toNat, none⟩ = some (.int .i64 (rd l r)) := by
  unfold Nums at h
  have h2 : r.toNat < l.length := by omega
  rw [blk_cell h]
  simp [rd, List.getD_eq_getElem?_getD, h2]
theorem Nums.set {W : World} {g : Nat} {l : List Int} (h : Nums W g l) (o : Nat) (v : Int) : Nums (W.setCell ⟨g, o, none⟩ (.int .i64 v)) g (l.set o v) := by
  unfold Nums at h ⊢
  unfold World.setCell
  simp only [Array.getElem?_modify, h]
  simp [List.map_set]
theorem Nums.below {W W1 : World} {g : Nat} {l : List Int} (h : Nums W g l) (hb : Below W.heap.size W W1) : Nums W1 g l := (hb.block g (blk_lt h)).trans h
/-- The warps of a schedule: n boards in a block, n places in another. -/
structure Iss (W : World) (gx gb ga : Nat) (A0 : Option Addr) (c0 : Nat) (l0 : List S45) (bs at_ : List Int) (n : Nat) : Prop where
  x : W.heap[gx]? = some (.cells #[.slice A0 l0.length c0, .slice (some ⟨gb, 0, none⟩) n n, .slice (some ⟨ga, 0, none⟩) n n] 75 (0, 0))
  b : Flat W gb bs
  a : Nums W ga at_
  l : Kd.C k45 W A0 l0.length l0
  bl : bs.length = 4 * n
  al : at_.length = n
theorem Iss.below {W W1 : World} {gx gb ga : Nat} {A0 : Option Addr} {c0 : Nat} {l0 : List S45} {bs at_ : List Int} {n : Nat} (h : Iss W gx gb ga A0 c0 l0 bs at_ n) (hb : Below W.heap.size W W1) : Iss W1 gx gb ga A0 c0 l0 bs at_ n :=
  ⟨(hb.block gx (blk_lt h.x)).trans h.x, h.b.below hb, h.a.below hb, Kd.C_below h.l hb, h.bl, h.al⟩
theorem Iss.drew {W : World} {gx gb ga : Nat} {A0 : Option Addr} {c0 : Nat} {l0 : List S45} {bs at_ : List Int} {n : Nat} (h : Iss W gx gb ga A0 c0 l0 bs at_ n) : Iss W.drew gx gb ga A0 c0 l0 bs at_ n := ⟨h.x, h.b, h.a, Kd.C_drew h.l, h.bl, h.al⟩
theorem iss_S {w' : World} {gx gb ga : Nat} {ad : Addr} {c0 : Nat} {l0 : List S45} {bs at_ : List Int} {n : Nat} (h : Iss w' gx gb ga (some ad) c0 l0 bs at_ n) {q : Int} (q0 : 0 ≤ q) (q1 : q < (n : Int)) (c2 : 0 ≤ rd at_ q) (c3 : rd at_ q < (l0.length : Int)) :
    w'.cell? ⟨gx, 0, none⟩ = some (.slice (some ad) l0.length c0) ∧ w'.cell? ⟨gx, 1, none⟩ = some (.slice (some ⟨gb, 0, none⟩) n n) ∧ w'.cell? ⟨gx, 2, none⟩ = some (.slice (some ⟨ga, 0, none⟩) n n) ∧ w'.cell? ⟨ga, q.toNat, none⟩ = some (.int .i64 (rd at_ q)) ∧ w'.cell? (ad.add ((rd at_ q).toNat * 4)) = some (.int .i64 (rd_T45 l0 (rd at_ q)).f0) ∧ w'.cell? ⟨(ad.add ((rd at_ q).toNat * 4)).block, (ad.add ((rd at_ q).toNat * 4)).off + 1, none⟩ = some (.int .i64 (rd_T45 l0 (rd at_ q)).f1) ∧ w'.cell? ⟨(ad.add ((rd at_ q).toNat * 4)).block, (ad.add ((rd at_ q).toNat * 4)).off + 2, none⟩ = some (.int .i64 (rd_T45 l0 (rd at_ q)).f2) ∧ w'.cell? ⟨(ad.add ((rd at_ q).toNat * 4)).block, (ad.add ((rd at_ q).toNat * 4)).off + 3, none⟩ = some (.int .i64 (rd_T45 l0 (rd at_ q)).f3) := by
  have hx := blk_cell h.x
  obtain ⟨ad', e, h0, h1, h2, h3⟩ := at_T45 h.l (rd at_ q) c2 c3
  cases e
  exact ⟨hx 0, hx 1, hx 2, h.a.cell q q0 (by rw [h.al]; exact q1), h0, h1, h2, h3⟩
def ready_at (l : List S45) (bs at_ : List Int) (w : Int) : Option Int :=
  board_ready.f bs (w.toNat * 4) (rd_T45 l (rd at_ w)).f0 (rd_T45 l (rd at_ w)).f1 (rd_T45 l (rd at_ w)).f2 (rd_T45 l (rd at_ w)).f3
def choose.l0 : Nat → List S45 → List Int → List Int → Int → Int → Int → Int → Option Int
  | 0, _, _, _, _, _, _, _ => none
  | K + 1, l, bs, at_, n, fr, cyc, k => if k < n then (if 0 ≤ rd at_ ((fr + k) % n) then (if rd at_ ((fr + k) % n) < (l.length : Int) then ((ready_at l bs at_ ((fr + k) % n)).bind fun t => if t ≤ cyc then some ((fr + k) % n) else choose.l0 K l bs at_ n fr cyc (k + 1)) else choose.l0 K l bs at_ n fr cyc (k + 1)) else none) else some (-1)
theorem choose.mono_l : ∀ K l bs at_ n fr cyc k, LeO (choose.l0 K l bs at_ n fr cyc k) (choose.l0 (K + 1) l bs at_ n fr cyc k)
  | 0 => fun _ _ _ _ _ _ _ r h => by simp [choose.l0] at h
  | K + 1 => by
    have ih0 := choose.mono_l K
    intro l bs at_ n fr cyc k
    unfold choose.l0
    refine LeO.ite (LeO.ite (LeO.ite (LeO.bind (LeO.refl _) fun _ => LeO.ite (LeO.refl _) (ih0 _ _ _ _ _ _ _)) (ih0 _ _ _ _ _ _ _)) (LeO.refl _)) (LeO.refl _)
set_option maxHeartbeats 4000000 in
set_option maxRecDepth 100000 in
theorem choose.calls (K : Nat) (gx gb ga : Nat) (A0 : Option Addr) (c0 : Nat) (l0 : List S45) (bs at_ : List Int) (n : Nat) (fr cyc r : Int) (w : World) (hI : Iss w gx gb ga A0 c0 l0 bs at_ n) (hn0 : 1 ≤ n) (hn1 : n ≤ 8) (hf0 : 0 ≤ fr) (hf1 : fr ≤ 8)
    (h : choose.l0 K l0 bs at_ n fr cyc 0 = some r) :
    Calls Try.prog 81 #[.pointer (some ⟨gx, 0, none⟩), .int .i64 fr, .int .i64 cyc] w fun e w' => e = .returned (.int .i64 r) ∧ Below w.heap.size w w' := by
  have hu45 := Try.underlying45
  have hu75 := Try.underlying75
  have hu70 := Try.underlying70
  have HI := Aside0.mk hI
  have HX := blk_cell hI.x
  have hx0 := HX 0
  have hx1 := HX 1
  have hx2 := HX 2
  have H' := Aside0.mk h
  clear hI HX h
  go_enter Try.func81, Try.ntmps81
  go_wp2
  go_loopg [16] K (fun kq v16 w' => ∃ (k : Int), v16 = .int .i64 k ∧ Aside0 (0 ≤ k) ∧ Aside0 (choose.l0 kq l0 bs at_ n fr cyc k = some r) ∧ Aside0 (Below w.heap.size w w'))
  case atStart => exact ⟨0, rfl, ⟨Int.le_refl _⟩, H', ⟨Below.refl _ _⟩⟩
  case round =>
    clear H'
    obtain ⟨k, rfl, HK0, HA, HB⟩ := hrel
    cases gk with
    | zero => exact absurd HA.out (by simp [choose.l0])
    | succ k1 =>
      have H := HA.out
      clear HA
      simp only [choose.l0] at H
      have hk0 := HK0.out
      have HI2 := Aside0.mk ((HI.out).below HB.out)
      by_cases c1 : k < (n : Int)
      · rw [if_pos c1] at H
        have e0 : 0 ≤ (fr + k) % (n : Int) := Int.emod_nonneg _ (by omega)
        have e1 : (fr + k) % (n : Int) < n := Int.emod_lt_of_pos _ (by omega)
        by_cases c2 : 0 ≤ rd at_ ((fr + k) % (n : Int))
        · rw [if_pos c2] at H
          by_cases c3 : rd at_ ((fr + k) % (n : Int)) < (l0.length : Int)
          · rw [if_pos c3] at H
            obtain ⟨t, ht, H⟩ := Option.bind_eq_some_iff.mp H
            have HT := Aside0.mk ht
            have HNX := Aside0.mk H
            clear H ht
            obtain ⟨ad, eA⟩ : ∃ ad, A0 = some ad := by
              obtain ⟨ad', e, _⟩ := at_T45 HI.out.l (rd at_ ((fr + k) % (n : Int))) c2 c3
              exact ⟨ad', e⟩
            subst eA
            by_cases c4 : t ≤ cyc
            · have NX := HNX.out
              rw [if_pos c4] at NX
              have HR := Aside0.mk (Option.some.inj NX)
              have d2 : decide (t ≤ cyc) = true := decide_eq_true c4
              clear NX c4
              go_wp2_with fail
              generalize (fr + k) % (n : Int) = q at *
              have hS := iss_S HI2.out e0 e1 c2 c3
              have d1 : decide (rd at_ q < (l0.length : Int)) = true := decide_eq_true c3
              go_region_held3 (fun w' => w'.cell? ⟨gx, 0, none⟩ = some (.slice (some ad) l0.length c0) ∧ w'.cell? ⟨gx, 1, none⟩ = some (.slice (some ⟨gb, 0, none⟩) n n) ∧ w'.cell? ⟨gx, 2, none⟩ = some (.slice (some ⟨ga, 0, none⟩) n n) ∧ w'.cell? ⟨ga, q.toNat, none⟩ = some (.int .i64 (rd at_ q)) ∧ w'.cell? (ad.add ((rd at_ q).toNat * 4)) = some (.int .i64 (rd_T45 l0 (rd at_ q)).f0) ∧ w'.cell? ⟨(ad.add ((rd at_ q).toNat * 4)).block, (ad.add ((rd at_ q).toNat * 4)).off + 1, none⟩ = some (.int .i64 (rd_T45 l0 (rd at_ q)).f1) ∧ w'.cell? ⟨(ad.add ((rd at_ q).toNat * 4)).block, (ad.add ((rd at_ q).toNat * 4)).off + 2, none⟩ = some (.int .i64 (rd_T45 l0 (rd at_ q)).f2) ∧ w'.cell? ⟨(ad.add ((rd at_ q).toNat * 4)).block, (ad.add ((rd at_ q).toNat * 4)).off + 3, none⟩ = some (.int .i64 (rd_T45 l0 (rd at_ q)).f3))
                (first | exact iss_S (Iss.drew HI2.out) e0 e1 c2 c3 | exact iss_S HI4.out e0 e1 c2 c3)
                (first | (go_at_call 77; refine (board_ready.calls gb (q.toNat * 4) bs _ _ _ _ t _ (Iss.drew HI2.out).b (by have := HI2.out.bl; omega) HT.out).mono ?_; rintro e w4 ⟨rfl, hb4⟩; have HI4 := Aside0.mk ((Iss.drew HI2.out).below hb4); have HB4 := Aside0.mk (below_step HB.out.drew hb4); clear hb4))
              go_wp2
              go_ret
              exact ⟨by rw [← HR.out]; rfl, HB4.out⟩
            · have NX := HNX.out
              rw [if_neg c4] at NX
              have HN2 := Aside0.mk NX
              have d2 : decide (t ≤ cyc) = false := decide_eq_false c4
              clear NX c4
              go_wp2_with fail
              generalize (fr + k) % (n : Int) = q at *
              have hS := iss_S HI2.out e0 e1 c2 c3
              have d1 : decide (rd at_ q < (l0.length : Int)) = true := decide_eq_true c3
              go_region_held3 (fun w' => w'.cell? ⟨gx, 0, none⟩ = some (.slice (some ad) l0.length c0) ∧ w'.cell? ⟨gx, 1, none⟩ = some (.slice (some ⟨gb, 0, none⟩) n n) ∧ w'.cell? ⟨gx, 2, none⟩ = some (.slice (some ⟨ga, 0, none⟩) n n) ∧ w'.cell? ⟨ga, q.toNat, none⟩ = some (.int .i64 (rd at_ q)) ∧ w'.cell? (ad.add ((rd at_ q).toNat * 4)) = some (.int .i64 (rd_T45 l0 (rd at_ q)).f0) ∧ w'.cell? ⟨(ad.add ((rd at_ q).toNat * 4)).block, (ad.add ((rd at_ q).toNat * 4)).off + 1, none⟩ = some (.int .i64 (rd_T45 l0 (rd at_ q)).f1) ∧ w'.cell? ⟨(ad.add ((rd at_ q).toNat * 4)).block, (ad.add ((rd at_ q).toNat * 4)).off + 2, none⟩ = some (.int .i64 (rd_T45 l0 (rd at_ q)).f2) ∧ w'.cell? ⟨(ad.add ((rd at_ q).toNat * 4)).block, (ad.add ((rd at_ q).toNat * 4)).off + 3, none⟩ = some (.int .i64 (rd_T45 l0 (rd at_ q)).f3))
                (first | exact iss_S (Iss.drew HI2.out) e0 e1 c2 c3 | exact iss_S HI4.out e0 e1 c2 c3)
                (first | (go_at_call 77; refine (board_ready.calls gb (q.toNat * 4) bs _ _ _ _ t _ (Iss.drew HI2.out).b (by have := HI2.out.bl; omega) HT.out).mono ?_; rintro e w4 ⟨rfl, hb4⟩; have HI4 := Aside0.mk ((Iss.drew HI2.out).below hb4); have HB4 := Aside0.mk (below_step HB.out.drew hb4); clear hb4))
              go_wp2
              go_roundg k1
              case measure => omega
              case rel => exact ⟨k + 1, rfl, ⟨by omega⟩, HN2, HB4⟩
          · rw [if_neg c3] at H
            have HN2 := Aside0.mk H
            clear H
            go_wp2_with fail
            generalize (fr + k) % (n : Int) = q at *
            have hx := blk_cell HI2.out.x
            have hy0 := hx 0
            have hy2 := hx 2
            have hq := HI2.out.a.cell q e0 (by rw [HI2.out.al]; exact e1)
            have d1 : decide (rd at_ q < (l0.length : Int)) = false := decide_eq_false (by omega)
            clear hx
            go_quiet (fail)
            go_wp2
            go_roundg k1
            case measure => omega
            case rel => exact ⟨k + 1, rfl, ⟨by omega⟩, HN2, ⟨pw_below_drewN HB.out _⟩⟩
        · rw [if_neg c2] at H; cases H
      · rw [if_neg c1] at H
        have HR := Aside0.mk (Option.some.inj H)
        have d1 : decide (k < (n : Int)) = false := decide_eq_false c1
        clear H c1
        go_wp2
        go_ret
        exact ⟨by rw [← HR.out]; rfl, HB.out⟩

end Go.Proofs.Ytopckcppmpmcnaa.Q
