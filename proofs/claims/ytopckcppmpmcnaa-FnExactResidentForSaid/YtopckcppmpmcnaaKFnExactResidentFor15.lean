/- The contract of impl.IssueAll. -/
import Derived.Test.YtopckcppmpmcnaaKFnExactResidentFor14
import Derived.StillTailTactics
namespace Go.Proofs.Ytopckcppmpmcnaa.Q
open Go.RowKit Go.Proofs.YtopckcppmpmcnaaW.PrintWords Go.Proofs.YtopckcppmpmcnaaW.PrintLast Go.Proofs.YtopckcppmpmcnaaW.PrintMore
set_option linter.unusedVariables false
set_option linter.unusedSimpArgs false

theorem blk_neT {W : World} {g h : Nat} {c d : Array Value} {s t : TypeId} (h1 : W.heap[g]? = some (.cells c s (0, 0))) (h2 : W.heap[h]? = some (.cells d t (0, 0))) (hst : s ≠ t) : g ≠ h := by
  rintro rfl
  rw [h1] at h2
  injection h2 with h2
  injection h2 with _ h3
  exact hst h3
theorem Iss.issued {W W1 : World} {gx gb ga : Nat} {A0 : Option Addr} {c0 : Nat} {l0 : List S45} {bs b2 at_ : List Int} {n : Nat} (h : Iss W gx gb ga A0 c0 l0 bs at_ n) (hf : Flat W1 gb b2) (hg : W.grownBy W1 (some gb)) (hl : b2.length = 4 * n) (hc : Kd.C k45 W1 A0 l0.length l0) : Iss W1 gx gb ga A0 c0 l0 b2 at_ n :=
  ⟨(hg.block gx (blk_lt h.x) (fun e => blk_neT h.x h.b (by decide) (by simpa using e))).trans h.x, hf, (hg.block ga (blk_lt h.a) (fun e => blk_neT h.a h.b (by decide) (by simpa using e))).trans h.a, hc, hl, h.al⟩
theorem Iss.appended {W W1 : World} {gx gb ga : Nat} {A0 : Option Addr} {c0 : Nat} {l0 : List S45} {bs at_ : List Int} {n : Nat} {v : Value} (h : Iss W gx gb ga A0 c0 l0 bs at_ n) (hg : W.grownBy W1 v.ownBlock) (n1 : some gx ≠ v.ownBlock) (n2 : some gb ≠ v.ownBlock) (n3 : some ga ≠ v.ownBlock) (hc : Kd.C k45 W1 A0 l0.length l0) : Iss W1 gx gb ga A0 c0 l0 bs at_ n :=
  ⟨(hg.block gx (blk_lt h.x) n1).trans h.x, (hg.block gb h.b.lt n2).trans h.b, (hg.block ga (blk_lt h.a) n3).trans h.a, hc, h.bl, h.al⟩
theorem Iss.put {W : World} {gx gb ga : Nat} {A0 : Option Addr} {c0 : Nat} {l0 : List S45} {bs at_ : List Int} {n : Nat} (h : Iss W gx gb ga A0 c0 l0 bs at_ n) (o : Nat) (v : Int) (hc : Kd.C k45 (W.setCell ⟨ga, o, none⟩ (.int .i64 v)) A0 l0.length l0) : Iss (W.setCell ⟨ga, o, none⟩ (.int .i64 v)) gx gb ga A0 c0 l0 bs (at_.set o v) n :=
  ⟨(Below.heap_setCell _ _ _ _ (blk_neT h.x (show W.heap[ga]? = some (.cells _ 3 (0, 0)) from h.a) (by decide))).trans h.x, (Below.heap_setCell _ _ _ _ (blk_neT (show W.heap[gb]? = some (.cells _ 70 (0, 0)) from h.b) (show W.heap[ga]? = some (.cells _ 3 (0, 0)) from h.a) (by decide))).trans h.b, h.a.set o v, hc, h.bl, by simpa using h.al⟩
def issue_at (l : List S45) (bs at_ : List Int) (w cyc : Int) : Option (List Int) :=
  board_issue.f bs (w.toNat * 4) (rd_T45 l (rd at_ w)).f0 (rd_T45 l (rd at_ w)).f1 (rd_T45 l (rd at_ w)).f2 (rd_T45 l (rd at_ w)).f3 cyc
theorem info_board : (Try.prog.info? 70).map (fun i => (i.zero, i.size, i.bytes)) = some (some (.agg #[.int .i64 0, .int .i64 0, .int .i64 0, .int .i64 0]), 4, 32) := by kernel_rfl
theorem made4 (m : Nat) : madeCells (Value.cells (.agg #[.int .i64 0, .int .i64 0, .int .i64 0, .int .i64 0])) m = ((List.replicate m (0 : Int)).map (Value.int .i64)).toArray := by
  refine Array.ext (by simp [madeCells]) fun i h1 h2 => ?_
  have h4 : i % 4 < 4 := Nat.mod_lt _ (by omega)
  have h5 : i % 4 = 0 ∨ i % 4 = 1 ∨ i % 4 = 2 ∨ i % 4 = 3 := by omega
  rcases h5 with h | h | h | h <;> simp [madeCells, Value.cells, h]
theorem made1 (m : Nat) : madeCells (Value.cells (.int .i64 0)) m = ((List.replicate m (0 : Int)).map (Value.int .i64)).toArray := by
  refine Array.ext (by simp [madeCells]) fun i h1 h2 => ?_
  have h5 : i % 1 = 0 := Nat.mod_one i
  simp [madeCells, Value.cells, h5]
theorem make_boards (W : World) (n : Nat) (hn : n ≤ 8) : (Instr.makeSlice 73 (.int .i64 n) (.int .i64 n)).run Try.prog W = .ok (.slice (some ⟨W.heap.size, 0, none⟩) n n) (W.alloc (.cells ((List.replicate (4 * n) (0 : Int)).map (Value.int .i64)).toArray 70)) := by
  obtain ⟨i0, hi, hz⟩ := Option.map_eq_some_iff.1 info_board
  simp only [Prod.mk.injEq] at hz
  obtain ⟨hz0, hz1, hz2⟩ := hz
  have hr := run_make (P := Try.prog) W 73 70 i0 _ Try.underlying73 hi hz0 .i64 .i64 (n : Int) (n : Int) (by omega) (by omega) (by rw [hz2]; omega) (by omega)
  rw [hz1, made4, Int.toNat_natCast, Nat.mul_comm n 4] at hr
  exact hr
theorem make_ints (W : World) (n : Nat) (hn : n ≤ 8) : (Instr.makeSlice 30 (.int .i64 n) (.int .i64 n)).run Try.prog W = .ok (.slice (some ⟨W.heap.size, 0, none⟩) n n) (W.alloc (.cells ((List.replicate n (0 : Int)).map (Value.int .i64)).toArray 3)) := by
  obtain ⟨i0, hi, hz⟩ := Option.map_eq_some_iff.1 info3
  simp only [Prod.mk.injEq] at hz
  obtain ⟨hz0, hz1, hz2⟩ := hz
  have hr := run_make (P := Try.prog) W 30 3 i0 _ Try.underlying30 hi hz0 .i64 .i64 (n : Int) (n : Int) (by omega) (by omega) (by rw [hz2]; omega) (by omega)
  rw [hz1, made1, Int.toNat_natCast, Nat.mul_one] at hr
  exact hr
theorem rep_map (m : Nat) : ((List.replicate m (0 : Int)).map (Value.int .i64)).toArray = Array.replicate m (Value.int .i64 0) := by simp
theorem iss_start1 (W : World) (A0 : Option Addr) (c0 : Nat) (l0 : List S45) (n : Nat) (hc : Kd.C k45 (((W.alloc (.cells (Array.replicate (4 * n) (Value.int .i64 0)) 70)).alloc (.cells (Array.replicate n (Value.int .i64 0)) 3)).alloc (.cells #[.slice A0 l0.length c0, .slice (some ⟨W.heap.size, 0, none⟩) n n, .slice (some ⟨W.heap.size + 1, 0, none⟩) n n] 75)).drew A0 l0.length l0) :
    Iss (((W.alloc (.cells (Array.replicate (4 * n) (Value.int .i64 0)) 70)).alloc (.cells (Array.replicate n (Value.int .i64 0)) 3)).alloc (.cells #[.slice A0 l0.length c0, .slice (some ⟨W.heap.size, 0, none⟩) n n, .slice (some ⟨W.heap.size + 1, 0, none⟩) n n] 75)).drew (W.heap.size + 1 + 1) W.heap.size (W.heap.size + 1) A0 c0 l0 (List.replicate (4 * n) 0) (List.replicate n 0) n := by
  refine ⟨lit3 W _ _ _, ?_, ?_, hc, by simp, by simp⟩
  · unfold Flat
    rw [rep_map]
    exact (Below.heap_alloc _ _ _ (by rw [size_al', size_al']; omega)).trans (litA W _ _)
  · unfold Nums
    rw [rep_map]
    exact (Below.heap_alloc _ _ _ (by rw [size_al', size_al']; omega)).trans (lit2 W _ _)
theorem iss_start2 (W : World) (A0 : Option Addr) (c0 : Nat) (l0 : List S45) (n : Nat) (hc : Kd.C k45 (((W.alloc (.cells (Array.replicate n (Value.int .i64 0)) 3)).alloc (.cells (Array.replicate (4 * n) (Value.int .i64 0)) 70)).alloc (.cells #[.slice A0 l0.length c0, .slice (some ⟨W.heap.size + 1, 0, none⟩) n n, .slice (some ⟨W.heap.size, 0, none⟩) n n] 75)).drew A0 l0.length l0) :
    Iss (((W.alloc (.cells (Array.replicate n (Value.int .i64 0)) 3)).alloc (.cells (Array.replicate (4 * n) (Value.int .i64 0)) 70)).alloc (.cells #[.slice A0 l0.length c0, .slice (some ⟨W.heap.size + 1, 0, none⟩) n n, .slice (some ⟨W.heap.size, 0, none⟩) n n] 75)).drew (W.heap.size + 1 + 1) (W.heap.size + 1) W.heap.size A0 c0 l0 (List.replicate (4 * n) 0) (List.replicate n 0) n := by
  refine ⟨lit3 W _ _ _, ?_, ?_, hc, by simp, by simp⟩
  · unfold Flat
    rw [rep_map]
    exact (Below.heap_alloc _ _ _ (by rw [size_al', size_al']; omega)).trans (lit2 W _ _)
  · unfold Nums
    rw [rep_map]
    exact (Below.heap_alloc _ _ _ (by rw [size_al', size_al']; omega)).trans (litA W _ _)
theorem mul_wrap (n m : Nat) (hn : n ≤ 8) (hm : m ≤ 32) : IntKind.i64.wrap ((n : Int) * (m : Int)) = (n : Int) * (m : Int) := by
  have h1 : n * m ≤ 8 * 32 := Nat.mul_le_mul hn hm
  have h2 : ((n * m : Nat) : Int) = (n : Int) * (m : Int) := by simp
  rw [← h2, IntKind.wrap_i64]; omega
theorem issue_len {b b2 : List Int} {o : Nat} {a0 a1 a2 a3 c : Int} (h : board_issue.f b o a0 a1 a2 a3 c = some b2) : b2.length = b.length := by
  unfold board_issue.f at h
  obtain ⟨x, _, h⟩ := Option.bind_eq_some_iff.mp h
  by_cases h0 : x ≥ 0
  · rw [if_pos h0] at h
    by_cases h1 : x < 4
    · rw [if_pos h1] at h
      obtain ⟨t, _, h⟩ := Option.bind_eq_some_iff.mp h
      obtain rfl := Option.some.inj h
      simp
    · rw [if_neg h1] at h; cases h
  · rw [if_neg h0] at h
    obtain rfl := Option.some.inj h
    rfl
def impl_IssueAll.l0 : Nat → List S45 → List Int → List Int → Int → Int → List S49 → Int → Int → Option (List S49)
  | 0, _, _, _, _, _, _, _, _ => none
  | K + 1, l, bs, at_, n, pol, out, fr, cyc => if (out.length : Int) < n * (l.length : Int) then ((choose.l0 K l bs at_ n fr cyc 0).bind fun q => if q < 0 then impl_IssueAll.l0 K l bs at_ n pol out fr (wrap64 (cyc + 1)) else (if q < n then (if 0 ≤ rd at_ q then (if rd at_ q < (l.length : Int) then ((issue_at l bs at_ q cyc).bind fun b2 => if out.length < 1099511627776 then impl_IssueAll.l0 K l b2 (at_.set q.toNat (rd at_ q + 1)) n pol (out ++ [⟨cyc, q, rd at_ q⟩]) (if pol = 1 then q + 1 else fr) (wrap64 (cyc + 1)) else none) else none) else none) else none)) else some out
def impl_IssueAll.f (k : Nat) (l0 : List S45) (a1 a2 : Int) : Option (List S49) :=
  (impl_ListOk.f k l0).bind fun t => if t = true ∧ inR 1 8 a1 = true ∧ inR 0 1 a2 = true then (if l0.length ≤ 32 then impl_IssueAll.l0 k l0 (List.replicate (4 * a1.toNat) 0) (List.replicate a1.toNat 0) a1 a2 [] 0 0 else none) else some []
set_option maxHeartbeats 8000000 in
set_option maxRecDepth 100000 in
theorem impl_IssueAll.calls (k : Nat) (A0 : Option Addr) (c0 : Nat) (l0 : List S45) (a1 a2 : Int) (r : List S49) (w : World) (hr0 : Kd.C k45 w A0 l0.length l0) (hc0 : l0.length ≤ c0) (h : impl_IssueAll.f k l0 a1 a2 = some r) :
    Calls Try.prog 37 #[.slice A0 l0.length c0, .int .i64 a1, .int .i64 a2] w fun e w' => ∃ v0_ : Value, e = .returned (v0_) ∧ Kd.R k49 49 w' w.heap.size (fun _ => True) v0_ r ∧ Below w.heap.size w w' := by
  have hu45 := Try.underlying45
  have hu75 := Try.underlying75
  have hu70 := Try.underlying70
  have hu49 := Try.underlying49
  have HR0 := Aside0.mk hr0
  have HC0 := Aside0.mk hc0
  have HB := Aside0.mk (Below.refl w.heap.size w)
  obtain ⟨t, ht, h⟩ := Option.bind_eq_some_iff.mp h
  have HT := Aside0.mk (fun W hr => impl_ListOk.calls k A0 c0 l0 t W hr hc0 ht)
  clear hr0 hc0 ht
  by_cases hall : t = true ∧ inR 1 8 a1 = true ∧ inR 0 1 a2 = true
  · rw [if_pos hall] at h
    obtain ⟨rfl, hi1, hi2⟩ := hall
    by_cases hn : l0.length ≤ 32
    · rw [if_pos hn] at h
      have HW1 := Aside0.mk (show impl_within.f a1 1 8 = some true by rw [within_f, hi1])
      have HW2 := Aside0.mk (show impl_within.f a2 0 1 = some true by rw [within_f, hi2])
      obtain ⟨b1, b2⟩ := (inR_iff _ _ _).1 hi1
      obtain ⟨b3, b4⟩ := (inR_iff _ _ _).1 hi2
      obtain ⟨n, rfl⟩ := Int.eq_ofNat_of_zero_le (show 0 ≤ a1 by omega)
      have H' := Aside0.mk h
      clear h hi1 hi2
      go_enter Try.func37, Try.ntmps37
      go_wp2_with fail
      refine (HT.out _ (by first | exact HR0.out | exact Kd.C_drewN HR0.out _)).mono ?_
      rintro e w1 ⟨rfl, hb⟩
      have HB1 := Aside0.mk hb
      clear hb HB
      go_wp2_with fail
      refine (impl_within.calls _ _ _ true _ HW1.out).mono ?_
      rintro e w2 ⟨rfl, ⟨nd, rfl⟩⟩
      go_wp2_with fail
      refine (impl_within.calls _ _ _ true _ HW2.out).mono ?_
      rintro e w2 ⟨rfl, ⟨nd2, rfl⟩⟩
      go_wp2_with fail
      obtain ⟨W2, hW2⟩ : ∃ W2, w1.drewN (nd + nd2) = W2 := ⟨_, rfl⟩
      have HB2 := Aside0.mk (show Below w.heap.size w W2 by rw [← hW2]; exact pw_below_drewN HB1.out _)
      rw [hW2]
      clear hW2 HB1
      have hm1 := fun W => make_boards W n (by omega)
      have hm2 := fun W => make_ints W n (by omega)
      go_region
      · have HB3 := Aside0.mk (below_drew1 (below_alloc (below_alloc (below_alloc HB2.out (.cells (Array.replicate (4 * n) (Value.int .i64 0)) 70)) (.cells (Array.replicate n (Value.int .i64 0)) 3)) (.cells #[.slice A0 l0.length c0, .slice (some ⟨W2.heap.size, 0, none⟩) n n, .slice (some ⟨W2.heap.size + 1, 0, none⟩) n n] 75)))
        have HI3 := Aside0.mk (iss_start1 W2 A0 c0 l0 n (Kd.C_below HR0.out HB3.out))
        have HGX := Aside0.mk (show w.heap.size ≤ W2.heap.size + 1 + 1 by have := HB2.out.size; omega)
        have HGB := Aside0.mk (show w.heap.size ≤ W2.heap.size by have := HB2.out.size; omega)
        have HGA := Aside0.mk (show w.heap.size ≤ W2.heap.size + 1 by have := HB2.out.size; omega)
        generalize (((W2.alloc (.cells (Array.replicate (4 * n) (Value.int .i64 0)) 70)).alloc (.cells (Array.replicate n (Value.int .i64 0)) 3)).alloc (.cells #[.slice A0 l0.length c0, .slice (some ⟨W2.heap.size, 0, none⟩) n n, .slice (some ⟨W2.heap.size + 1, 0, none⟩) n n] 75)).drew = W3 at *
        generalize W2.heap.size + 1 + 1 = gx at *
        generalize W2.heap.size + 1 = ga at *
        generalize W2.heap.size = gb at *
        clear hm1 hm2
        have hmul : IntKind.i64.wrap ((n : Int) * (l0.length : Int)) = (n : Int) * (l0.length : Int) := mul_wrap n l0.length (by omega) (by omega)
        go_wp2_with (first
          | ((with_reducible refine gate_dst (N := 32) rfl ?_); refine Kd.R_lit k49 _ 49 ?hg (N := 32) ?hd (xs := ([] : List S49)) (inner := []) (ok := fun _ => True) (okp := fun _ => True) ?hr ?hp (fun _ hk => hk) trivial (Below.refl _ _) (Nat.le_refl _) (by simp) ?_; (case hd => rfl); (case hg => rfl); (case hr => first | (go_simp; done) | (go_simp; rfl)); (case hp => exact (Reps.none _ _)); intro v4 w4 ho4 hb4 hg_ hnew_; clear hg_ hnew_; have HO4 := Aside0.mk (Kd.R_lower ho4 (below_size HB3.out)); have HI4 := Aside0.mk ((HI3.out).below hb4); have HB4 := Aside0.mk (below_step HB3.out hb4); clear hb4 ho4))
        go_loopg [8, 9, 10] k (fun kq v8 v9 v10 w' => ∃ (out : List S49) (bs at_ : List Int) (fr cyc : Int), v9 = .int .i64 fr ∧ v10 = .int .i64 cyc ∧ Aside0 (impl_IssueAll.l0 kq l0 bs at_ n a2 out fr cyc = some r) ∧ Aside0 (kq ≤ k) ∧ Aside0 (0 ≤ fr ∧ fr ≤ 8) ∧ Aside0 (Kd.R k49 49 w' w.heap.size (fun _ => True) v8 out) ∧ Aside0 (Iss w' gx gb ga A0 c0 l0 bs at_ n) ∧ Aside0 (Below w.heap.size w w'))
        case atStart => exact ⟨[], _, _, 0, 0, rfl, rfl, H', ⟨Nat.le_refl _⟩, ⟨by omega⟩, HO4, HI4, HB4⟩
        case round =>
          clear H' HO4 HI4 HB4 HI3 HB3 HB2
          obtain ⟨out, bs, at_, fr, cyc, rfl, rfl, HA, HK, HFR, HO, HI, HB⟩ := hrel
          cases gk with
          | zero => exact absurd HA.out (by simp [impl_IssueAll.l0])
          | succ k1 =>
            have H := HA.out
            clear HA
            simp only [impl_IssueAll.l0] at H
            obtain ⟨Ao, co, eo⟩ := Kd.R_slice HO.out
            subst eo
            by_cases c1 : (out.length : Int) < (n : Int) * (l0.length : Int)
            · rw [if_pos c1] at H
              have d1 : decide ((out.length : Int) < (n : Int) * (l0.length : Int)) = true := decide_eq_true c1
              obtain ⟨q, hq, H⟩ := Option.bind_eq_some_iff.mp H
              have HQ := Aside0.mk hq
              have HNX := Aside0.mk H
              clear c1 hq H
              go_wp2_with fail
              refine (choose.calls k1 gx gb ga A0 c0 l0 bs at_ n fr cyc q _ HI.out (by omega) (by omega) HFR.out.1 HFR.out.2 HQ.out).mono ?_
              rintro e w5 ⟨rfl, hb5⟩
              have HO5 := Aside0.mk (Kd.R_below HO.out hb5)
              have HI5 := Aside0.mk ((HI.out).below hb5)
              have HB5 := Aside0.mk (below_step HB.out hb5)
              clear hb5 HO HI HB d1
              have H := HNX.out
              clear HNX
              by_cases c2 : q < 0
              · rw [if_pos c2] at H
                have HN2 := Aside0.mk H
                have d2 : decide (q < 0) = true := decide_eq_true c2
                clear H c2
                go_wp2
                go_roundg k1
                case measure => have := HK.out; omega
                case rel => exact ⟨out, bs, at_, fr, wrap64 (cyc + 1), rfl, rfl, HN2, ⟨by have := HK.out; omega⟩, HFR, HO5, HI5, HB5⟩
              · rw [if_neg c2] at H
                by_cases c3 : q < (n : Int)
                · rw [if_pos c3] at H
                  by_cases c4 : 0 ≤ rd at_ q
                  · rw [if_pos c4] at H
                    by_cases c5 : rd at_ q < (l0.length : Int)
                    · rw [if_pos c5] at H
                      obtain ⟨b2, hb2, H⟩ := Option.bind_eq_some_iff.mp H
                      by_cases c6 : out.length < 1099511627776
                      · rw [if_pos c6] at H
                        have HN2 := Aside0.mk H
                        have HBB := Aside0.mk hb2
                        have HLO := Aside0.mk c6
                        have q0 : 0 ≤ q := by omega
                        have d2 : decide (q < 0) = false := decide_eq_false c2
                        clear H hb2 c6 c2
                        obtain ⟨ad, eA⟩ : ∃ ad, A0 = some ad := by
                          obtain ⟨ad', e, _⟩ := at_T45 HR0.out (rd at_ q) c4 c5
                          exact ⟨ad', e⟩
                        subst eA
                        have hS := iss_S HI5.out q0 c3 c4 c5
                        obtain ⟨s0, s1, s2, s3, s4, s5, s6, s7⟩ := hS
                        go_wp2_with fail
                        go_still_tail 17, (by kernel_rfl)
                        change wpList _ _ _ _ _ w5.drew
                        have HI6 := Aside0.mk (Iss.drew HI5.out)
                        have HO6 := Aside0.mk (Kd.R_drew HO5.out)
                        have HB6 := Aside0.mk (below_drew1 HB5.out)
                        generalize w5.drew = w6 at *
                        clear s0 s1 s2 s3 s4 s5 s6 s7 HI5 HO5 HB5 d2
                        go_wp2_with fail
                        refine (board_issue.calls gb (q.toNat * 4) bs _ _ _ _ cyc b2 _ HI6.out.b (by have := HI6.out.bl; omega) HBB.out).mono ?_
                        rintro e w7 ⟨rfl, hf7, hg7⟩
                        have HB7 := Aside0.mk (Below.grown HB6.out hg7 (below_size HB6.out) (fun j hj => by cases hj; exact HGB.out))
                        have HI7 := Aside0.mk (HI6.out.issued hf7 hg7 (by rw [issue_len HBB.out]; exact HI6.out.bl) (Kd.C_below HR0.out HB7.out))
                        have HO7 := Aside0.mk (R_grown HO6.out HI6.out.b (by decide) hg7)
                        clear hf7 hg7 HI6 HO6 HB6
                        have hS := iss_S HI7.out q0 c3 c4 c5
                        obtain ⟨s0, s1, s2, s3, s4, s5, s6, s7⟩ := hS
                        go_wp2_with (first
                          | ((with_reducible refine gate_builtin (b := .append) (xs := #[.tmp 66, .tmp 77]) rfl ?_); at_builtin; refine Kd.R_append k49 (w0 := w) w.heap.size rfl (.tmp 66) (.tmp 77) 35 49 (.agg #[.int .i64 0, .int .i64 0, .int .i64 0]) 24 rfl Try.underlying35 info49 rfl (by decide) (by omega) (.slice Ao out.length co) out ⟨cyc, q, rd at_ q⟩ [.int .i64 cyc, .int .i64 q, .int .i64 (rd at_ q)] (fun _ => True) (fun _ => False) rfl (by first | (go_simp; done) | (go_simp; rfl)) ?aP (fun _ hk => hk.elim) ?aF ?aO ?aB ?aS ?aL ?_; (case aP => exact k49_mkM _ _ _ _); (case aB => exact HB7.out); (case aF => exact (fun _ _ => trivial)); (case aO => exact HO7.out); (case aS => exact below_size HB7.out); (case aL => have := HLO.out; omega); intro v8 w8 ho hb hg hat; have HI8 := Aside0.mk (HI7.out.appended hg (Kd.R_ne HO7.out HI7.out.x (by decide)) (Kd.R_ne HO7.out (show w7.heap[gb]? = some (.cells _ 70 (0, 0)) from HI7.out.b) (by decide)) (Kd.R_ne HO7.out (show w7.heap[ga]? = some (.cells _ 3 (0, 0)) from HI7.out.a) (by decide)) (Kd.C_below HR0.out hb)); have HO8 := Aside0.mk ho; have HB8 := Aside0.mk hb; clear ho hb hg hat HI7 HO7 HB7 s0 s1 s2 s3 s4 s5 s6 s7; have hS := iss_S HI8.out q0 c3 c4 c5; obtain ⟨s0, s1, s2, s3, s4, s5, s6, s7⟩ := hS; have sf := blk_frozen HI8.out.a q.toNat))
                        · have he : a2 = 1 := by simpa using (show (a2 == 1) = true by assumption)
                          have HN3 := HN2.out
                          rw [if_pos he] at HN3
                          have HN4 := Aside0.mk HN3
                          clear HN3
                          have HB9 := Aside0.mk (below_set (j := q.toNat) (v := .int .i64 (rd at_ q + 1)) HB8.out HGA.out)
                          have HI9 := Aside0.mk (HI8.out.put q.toNat (rd at_ q + 1) (Kd.C_below HR0.out HB9.out))
                          have HO9 := Aside0.mk (R_grown HO8.out (show w8.heap[ga]? = some (.cells _ 3 (0, 0)) from HI8.out.a) (by decide) (grown_set w8 ga q.toNat (.int .i64 (rd at_ q + 1))))
                          have HQ2 := Aside0.mk (show 0 ≤ q + 1 ∧ q + 1 ≤ 8 by omega)
                          go_roundg k1
                          case measure => have := HK.out; omega
                          case rel => exact ⟨_, b2, _, q + 1, wrap64 (cyc + 1), rfl, rfl, HN4, ⟨by have := HK.out; omega⟩, HQ2, HO9, HI9, HB9⟩
                        · have he : ¬ a2 = 1 := by simpa using (show (a2 == 1) = false by assumption)
                          have HN3 := HN2.out
                          rw [if_neg he] at HN3
                          have HN4 := Aside0.mk HN3
                          clear HN3
                          have HB9 := Aside0.mk (below_set (j := q.toNat) (v := .int .i64 (rd at_ q + 1)) HB8.out HGA.out)
                          have HI9 := Aside0.mk (HI8.out.put q.toNat (rd at_ q + 1) (Kd.C_below HR0.out HB9.out))
                          have HO9 := Aside0.mk (R_grown HO8.out (show w8.heap[ga]? = some (.cells _ 3 (0, 0)) from HI8.out.a) (by decide) (grown_set w8 ga q.toNat (.int .i64 (rd at_ q + 1))))
                          go_roundg k1
                          case measure => have := HK.out; omega
                          case rel => exact ⟨_, b2, _, fr, wrap64 (cyc + 1), rfl, rfl, HN4, ⟨by have := HK.out; omega⟩, HFR, HO9, HI9, HB9⟩
                      · rw [if_neg c6] at H; cases H
                    · rw [if_neg c5] at H; cases H
                  · rw [if_neg c4] at H; cases H
                · rw [if_neg c3] at H; cases H
            · rw [if_neg c1] at H
              have HR9 := Aside0.mk (Option.some.inj H)
              have d1 : decide ((out.length : Int) < (n : Int) * (l0.length : Int)) = false := decide_eq_false c1
              clear H c1
              go_wp2
              go_ret
              exact ⟨_, rfl, by rw [← HR9.out]; exact HO.out, HB.out⟩
      · have HB3 := Aside0.mk (below_drew1 (below_alloc (below_alloc (below_alloc HB2.out (.cells (Array.replicate n (Value.int .i64 0)) 3)) (.cells (Array.replicate (4 * n) (Value.int .i64 0)) 70)) (.cells #[.slice A0 l0.length c0, .slice (some ⟨W2.heap.size + 1, 0, none⟩) n n, .slice (some ⟨W2.heap.size, 0, none⟩) n n] 75)))
        have HI3 := Aside0.mk (iss_start2 W2 A0 c0 l0 n (Kd.C_below HR0.out HB3.out))
        have HGX := Aside0.mk (show w.heap.size ≤ W2.heap.size + 1 + 1 by have := HB2.out.size; omega)
        have HGB := Aside0.mk (show w.heap.size ≤ W2.heap.size + 1 by have := HB2.out.size; omega)
        have HGA := Aside0.mk (show w.heap.size ≤ W2.heap.size by have := HB2.out.size; omega)
        generalize (((W2.alloc (.cells (Array.replicate n (Value.int .i64 0)) 3)).alloc (.cells (Array.replicate (4 * n) (Value.int .i64 0)) 70)).alloc (.cells #[.slice A0 l0.length c0, .slice (some ⟨W2.heap.size + 1, 0, none⟩) n n, .slice (some ⟨W2.heap.size, 0, none⟩) n n] 75)).drew = W3 at *
        generalize W2.heap.size + 1 + 1 = gx at *
        generalize W2.heap.size + 1 = gb at *
        generalize W2.heap.size = ga at *
        clear hm1 hm2
        have hmul : IntKind.i64.wrap ((n : Int) * (l0.length : Int)) = (n : Int) * (l0.length : Int) := mul_wrap n l0.length (by omega) (by omega)
        go_wp2_with (first
          | ((with_reducible refine gate_dst (N := 32) rfl ?_); refine Kd.R_lit k49 _ 49 ?hg (N := 32) ?hd (xs := ([] : List S49)) (inner := []) (ok := fun _ => True) (okp := fun _ => True) ?hr ?hp (fun _ hk => hk) trivial (Below.refl _ _) (Nat.le_refl _) (by simp) ?_; (case hd => rfl); (case hg => rfl); (case hr => first | (go_simp; done) | (go_simp; rfl)); (case hp => exact (Reps.none _ _)); intro v4 w4 ho4 hb4 hg_ hnew_; clear hg_ hnew_; have HO4 := Aside0.mk (Kd.R_lower ho4 (below_size HB3.out)); have HI4 := Aside0.mk ((HI3.out).below hb4); have HB4 := Aside0.mk (below_step HB3.out hb4); clear hb4 ho4))
        go_loopg [8, 9, 10] k (fun kq v8 v9 v10 w' => ∃ (out : List S49) (bs at_ : List Int) (fr cyc : Int), v9 = .int .i64 fr ∧ v10 = .int .i64 cyc ∧ Aside0 (impl_IssueAll.l0 kq l0 bs at_ n a2 out fr cyc = some r) ∧ Aside0 (kq ≤ k) ∧ Aside0 (0 ≤ fr ∧ fr ≤ 8) ∧ Aside0 (Kd.R k49 49 w' w.heap.size (fun _ => True) v8 out) ∧ Aside0 (Iss w' gx gb ga A0 c0 l0 bs at_ n) ∧ Aside0 (Below w.heap.size w w'))
        case atStart => exact ⟨[], _, _, 0, 0, rfl, rfl, H', ⟨Nat.le_refl _⟩, ⟨by omega⟩, HO4, HI4, HB4⟩
        case round =>
          clear H' HO4 HI4 HB4 HI3 HB3 HB2
          obtain ⟨out, bs, at_, fr, cyc, rfl, rfl, HA, HK, HFR, HO, HI, HB⟩ := hrel
          cases gk with
          | zero => exact absurd HA.out (by simp [impl_IssueAll.l0])
          | succ k1 =>
            have H := HA.out
            clear HA
            simp only [impl_IssueAll.l0] at H
            obtain ⟨Ao, co, eo⟩ := Kd.R_slice HO.out
            subst eo
            by_cases c1 : (out.length : Int) < (n : Int) * (l0.length : Int)
            · rw [if_pos c1] at H
              have d1 : decide ((out.length : Int) < (n : Int) * (l0.length : Int)) = true := decide_eq_true c1
              obtain ⟨q, hq, H⟩ := Option.bind_eq_some_iff.mp H
              have HQ := Aside0.mk hq
              have HNX := Aside0.mk H
              clear c1 hq H
              go_wp2_with fail
              refine (choose.calls k1 gx gb ga A0 c0 l0 bs at_ n fr cyc q _ HI.out (by omega) (by omega) HFR.out.1 HFR.out.2 HQ.out).mono ?_
              rintro e w5 ⟨rfl, hb5⟩
              have HO5 := Aside0.mk (Kd.R_below HO.out hb5)
              have HI5 := Aside0.mk ((HI.out).below hb5)
              have HB5 := Aside0.mk (below_step HB.out hb5)
              clear hb5 HO HI HB d1
              have H := HNX.out
              clear HNX
              by_cases c2 : q < 0
              · rw [if_pos c2] at H
                have HN2 := Aside0.mk H
                have d2 : decide (q < 0) = true := decide_eq_true c2
                clear H c2
                go_wp2
                go_roundg k1
                case measure => have := HK.out; omega
                case rel => exact ⟨out, bs, at_, fr, wrap64 (cyc + 1), rfl, rfl, HN2, ⟨by have := HK.out; omega⟩, HFR, HO5, HI5, HB5⟩
              · rw [if_neg c2] at H
                by_cases c3 : q < (n : Int)
                · rw [if_pos c3] at H
                  by_cases c4 : 0 ≤ rd at_ q
                  · rw [if_pos c4] at H
                    by_cases c5 : rd at_ q < (l0.length : Int)
                    · rw [if_pos c5] at H
                      obtain ⟨b2, hb2, H⟩ := Option.bind_eq_some_iff.mp H
                      by_cases c6 : out.length < 1099511627776
                      · rw [if_pos c6] at H
                        have HN2 := Aside0.mk H
                        have HBB := Aside0.mk hb2
                        have HLO := Aside0.mk c6
                        have q0 : 0 ≤ q := by omega
                        have d2 : decide (q < 0) = false := decide_eq_false c2
                        clear H hb2 c6 c2
                        obtain ⟨ad, eA⟩ : ∃ ad, A0 = some ad := by
                          obtain ⟨ad', e, _⟩ := at_T45 HR0.out (rd at_ q) c4 c5
                          exact ⟨ad', e⟩
                        subst eA
                        have hS := iss_S HI5.out q0 c3 c4 c5
                        obtain ⟨s0, s1, s2, s3, s4, s5, s6, s7⟩ := hS
                        go_wp2_with fail
                        go_still_tail 17, (by kernel_rfl)
                        change wpList _ _ _ _ _ w5.drew
                        have HI6 := Aside0.mk (Iss.drew HI5.out)
                        have HO6 := Aside0.mk (Kd.R_drew HO5.out)
                        have HB6 := Aside0.mk (below_drew1 HB5.out)
                        generalize w5.drew = w6 at *
                        clear s0 s1 s2 s3 s4 s5 s6 s7 HI5 HO5 HB5 d2
                        go_wp2_with fail
                        refine (board_issue.calls gb (q.toNat * 4) bs _ _ _ _ cyc b2 _ HI6.out.b (by have := HI6.out.bl; omega) HBB.out).mono ?_
                        rintro e w7 ⟨rfl, hf7, hg7⟩
                        have HB7 := Aside0.mk (Below.grown HB6.out hg7 (below_size HB6.out) (fun j hj => by cases hj; exact HGB.out))
                        have HI7 := Aside0.mk (HI6.out.issued hf7 hg7 (by rw [issue_len HBB.out]; exact HI6.out.bl) (Kd.C_below HR0.out HB7.out))
                        have HO7 := Aside0.mk (R_grown HO6.out HI6.out.b (by decide) hg7)
                        clear hf7 hg7 HI6 HO6 HB6
                        have hS := iss_S HI7.out q0 c3 c4 c5
                        obtain ⟨s0, s1, s2, s3, s4, s5, s6, s7⟩ := hS
                        go_wp2_with (first
                          | ((with_reducible refine gate_builtin (b := .append) (xs := #[.tmp 66, .tmp 77]) rfl ?_); at_builtin; refine Kd.R_append k49 (w0 := w) w.heap.size rfl (.tmp 66) (.tmp 77) 35 49 (.agg #[.int .i64 0, .int .i64 0, .int .i64 0]) 24 rfl Try.underlying35 info49 rfl (by decide) (by omega) (.slice Ao out.length co) out ⟨cyc, q, rd at_ q⟩ [.int .i64 cyc, .int .i64 q, .int .i64 (rd at_ q)] (fun _ => True) (fun _ => False) rfl (by first | (go_simp; done) | (go_simp; rfl)) ?aP (fun _ hk => hk.elim) ?aF ?aO ?aB ?aS ?aL ?_; (case aP => exact k49_mkM _ _ _ _); (case aB => exact HB7.out); (case aF => exact (fun _ _ => trivial)); (case aO => exact HO7.out); (case aS => exact below_size HB7.out); (case aL => have := HLO.out; omega); intro v8 w8 ho hb hg hat; have HI8 := Aside0.mk (HI7.out.appended hg (Kd.R_ne HO7.out HI7.out.x (by decide)) (Kd.R_ne HO7.out (show w7.heap[gb]? = some (.cells _ 70 (0, 0)) from HI7.out.b) (by decide)) (Kd.R_ne HO7.out (show w7.heap[ga]? = some (.cells _ 3 (0, 0)) from HI7.out.a) (by decide)) (Kd.C_below HR0.out hb)); have HO8 := Aside0.mk ho; have HB8 := Aside0.mk hb; clear ho hb hg hat HI7 HO7 HB7 s0 s1 s2 s3 s4 s5 s6 s7; have hS := iss_S HI8.out q0 c3 c4 c5; obtain ⟨s0, s1, s2, s3, s4, s5, s6, s7⟩ := hS; have sf := blk_frozen HI8.out.a q.toNat))
                        · have he : a2 = 1 := by simpa using (show (a2 == 1) = true by assumption)
                          have HN3 := HN2.out
                          rw [if_pos he] at HN3
                          have HN4 := Aside0.mk HN3
                          clear HN3
                          have HB9 := Aside0.mk (below_set (j := q.toNat) (v := .int .i64 (rd at_ q + 1)) HB8.out HGA.out)
                          have HI9 := Aside0.mk (HI8.out.put q.toNat (rd at_ q + 1) (Kd.C_below HR0.out HB9.out))
                          have HO9 := Aside0.mk (R_grown HO8.out (show w8.heap[ga]? = some (.cells _ 3 (0, 0)) from HI8.out.a) (by decide) (grown_set w8 ga q.toNat (.int .i64 (rd at_ q + 1))))
                          have HQ2 := Aside0.mk (show 0 ≤ q + 1 ∧ q + 1 ≤ 8 by omega)
                          go_roundg k1
                          case measure => have := HK.out; omega
                          case rel => exact ⟨_, b2, _, q + 1, wrap64 (cyc + 1), rfl, rfl, HN4, ⟨by have := HK.out; omega⟩, HQ2, HO9, HI9, HB9⟩
                        · have he : ¬ a2 = 1 := by simpa using (show (a2 == 1) = false by assumption)
                          have HN3 := HN2.out
                          rw [if_neg he] at HN3
                          have HN4 := Aside0.mk HN3
                          clear HN3
                          have HB9 := Aside0.mk (below_set (j := q.toNat) (v := .int .i64 (rd at_ q + 1)) HB8.out HGA.out)
                          have HI9 := Aside0.mk (HI8.out.put q.toNat (rd at_ q + 1) (Kd.C_below HR0.out HB9.out))
                          have HO9 := Aside0.mk (R_grown HO8.out (show w8.heap[ga]? = some (.cells _ 3 (0, 0)) from HI8.out.a) (by decide) (grown_set w8 ga q.toNat (.int .i64 (rd at_ q + 1))))
                          go_roundg k1
                          case measure => have := HK.out; omega
                          case rel => exact ⟨_, b2, _, fr, wrap64 (cyc + 1), rfl, rfl, HN4, ⟨by have := HK.out; omega⟩, HFR, HO9, HI9, HB9⟩
                      · rw [if_neg c6] at H; cases H
                    · rw [if_neg c5] at H; cases H
                  · rw [if_neg c4] at H; cases H
                · rw [if_neg c3] at H; cases H
            · rw [if_neg c1] at H
              have HR9 := Aside0.mk (Option.some.inj H)
              have d1 : decide ((out.length : Int) < (n : Int) * (l0.length : Int)) = false := decide_eq_false c1
              clear H c1
              go_wp2
              go_ret
              exact ⟨_, rfl, by rw [← HR9.out]; exact HO.out, HB.out⟩
    · rw [if_neg hn] at h; cases h
  · rw [if_neg hall] at h
    obtain rfl := Option.some.inj h
    have HW1 := Aside0.mk (show impl_within.f a1 1 8 = some (inR 1 8 a1) from within_f _ _ _)
    have HW2 := Aside0.mk (show impl_within.f a2 0 1 = some (inR 0 1 a2) from within_f _ _ _)
    cases t with
    | false =>
      clear h hall
      go_enter Try.func37, Try.ntmps37
      go_wp2_with fail
      refine (HT.out _ (by first | exact HR0.out | exact Kd.C_drewN HR0.out _)).mono ?_
      rintro e w1 ⟨rfl, hb⟩
      go_wp2_with fail
      go_ret
      exact ⟨_, rfl, Kd.R_nil _ _ _ _ _, hb⟩
    | true =>
      cases h1 : inR 1 8 a1 with
      | false =>
        have HW3 := Aside0.mk (show impl_within.f a1 1 8 = some false by rw [within_f, h1])
        clear h hall h1 HW1
        go_enter Try.func37, Try.ntmps37
        go_wp2_with fail
        refine (HT.out _ (by first | exact HR0.out | exact Kd.C_drewN HR0.out _)).mono ?_
        rintro e w1 ⟨rfl, hb⟩
        have HB1 := Aside0.mk hb
        clear hb
        go_wp2_with fail
        refine (impl_within.calls _ _ _ false _ HW3.out).mono ?_
        rintro e w2 ⟨rfl, ⟨nd, rfl⟩⟩
        go_wp2_with fail
        go_ret
        exact ⟨_, rfl, Kd.R_nil _ _ _ _ _, pw_below_drewN HB1.out _⟩
      | true =>
        have h2 : inR 0 1 a2 = false := by
          cases h2 : inR 0 1 a2 with
          | false => rfl
          | true => exact absurd ⟨rfl, h1, h2⟩ hall
        have HW3 := Aside0.mk (show impl_within.f a1 1 8 = some true by rw [within_f, h1])
        have HW4 := Aside0.mk (show impl_within.f a2 0 1 = some false by rw [within_f, h2])
        clear h hall h1 h2 HW1 HW2
        go_enter Try.func37, Try.ntmps37
        go_wp2_with fail
        refine (HT.out _ (by first | exact HR0.out | exact Kd.C_drewN HR0.out _)).mono ?_
        rintro e w1 ⟨rfl, hb⟩
        have HB1 := Aside0.mk hb
        clear hb
        go_wp2_with fail
        refine (impl_within.calls _ _ _ true _ HW3.out).mono ?_
        rintro e w2 ⟨rfl, ⟨nd, rfl⟩⟩
        go_wp2_with fail
        refine (impl_within.calls _ _ _ false _ HW4.out).mono ?_
        rintro e w2 ⟨rfl, ⟨nd2, rfl⟩⟩
        go_wp2_with fail
        go_ret
        exact ⟨_, rfl, Kd.R_nil _ _ _ _ _, pw_below_drewN HB1.out _⟩

end Go.Proofs.Ytopckcppmpmcnaa.Q
