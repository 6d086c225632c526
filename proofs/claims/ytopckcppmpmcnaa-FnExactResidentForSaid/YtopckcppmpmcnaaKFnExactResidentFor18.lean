/- The contracts of impl.cyclesIn, impl.CyclesOf and impl.IdleCycles in the printed form: a set of the cycles. -/
import Derived.Test.YtopckcppmpmcnaaKFnExactResidentFor17
import Derived.Maps.OwnSet
import Derived.Maps.RangeWalk
namespace Go.Proofs.Ytopckcppmpmcnaa.Q
open Go.RowKit Go.Maps Go.WideMaps Go.Proofs.YtopckcppmpmcnaaW.PrintWords Go.Proofs.YtopckcppmpmcnaaW.PrintLast Go.Proofs.YtopckcppmpmcnaaW.PrintMore
set_option linter.unusedVariables false
set_option linter.unusedSimpArgs false

def cycKeys (l : List S49) (k : Nat) : List Lit := (l.take k).map fun s => Lit.int .i64 s.f0
def cycSet (l : List S49) (k : Nat) : DataW Unit := setOf (.lit (.bool true)) (cycKeys l k)
def cycOk (l : List S49) : Bool := l.all fun s => inR 0 1000000 s.f0
theorem cycSet_zero (l : List S49) : cycSet l 0 = .map [] := by simp [cycSet, cycKeys, setOf]
theorem cycSet_succ (l : List S49) (k : Nat) (h : k < l.length) : cycSet l (k + 1) = (cycSet l k).put (.int .i64 (rd_T49 l (k : Int)).f0) (.lit (.bool true)) := by
  have e : cycKeys l (k + 1) = cycKeys l k ++ [Lit.int .i64 (rd_T49 l (k : Int)).f0] := by
    unfold cycKeys
    rw [List.take_add_one, List.map_append]
    simp [rd_T49, List.getD_eq_getElem?_getD, h]
  unfold cycSet
  rw [e, setOf_snoc]
theorem cyc_law : Keyed Try.prog 3 := int_keyed Try.underlying3
theorem cycSet_grow (l : List S49) (k : Nat) (W : World) (b : Nat) (h : W.ownsMap Try.prog 3 (plainElem Try.prog 4) b (k + 1) ((cycSet l k).put (.int .i64 (rd_T49 l (k : Int)).f0) (.lit (.bool true)))) (hk : k < l.length) :
    W.ownsMap Try.prog 3 (plainElem Try.prog 4) b (k + 1) (cycSet l (k + 1)) := by rw [cycSet_succ l k hk]; exact h
theorem ownsMap_below {P : Program} {k e : TypeId} {w w' : World} {b n : Nat} {D : DataW Unit} (h : w.ownsMap P k (plainElem P e) b n D) (hb : Below w.heap.size w w') : w'.ownsMap P k (plainElem P e) b n D := by
  have hl := h.lt
  unfold World.ownsMap at h ⊢
  rw [hb.block b hl]; exact h
theorem cycOk_take (l : List S49) (k : Nat) (hk : k < l.length) (h : ((l.take k).all fun s => inR 0 1000000 s.f0) = true) (h1 : inR 0 1000000 (rd_T49 l (k : Int)).f0 = true) : ((l.take (k + 1)).all fun s => inR 0 1000000 s.f0) = true := by
  rw [List.take_add_one, List.all_append, h]
  simpa [rd_T49, List.getD_eq_getElem?_getD, hk] using h1
theorem cycOk_miss (l : List S49) (k : Nat) (hk : k < l.length) (h1 : inR 0 1000000 (rd_T49 l (k : Int)).f0 = false) : cycOk l = false := by
  unfold cycOk
  rw [List.all_eq_false]
  refine ⟨l[k], List.getElem_mem hk, ?_⟩
  have e : rd_T49 l (k : Int) = l[k] := by simp [rd_T49, List.getD_eq_getElem?_getD, hk]
  rw [e] at h1
  simp [h1]
theorem cyc_key (x : Int) (h : inR 0 1000000 x = true) : keyOf Try.prog 3 (.int .i64 x) = some (.int .i64 x) := by
  rw [inR_iff] at h
  refine keyOf_int_mk Try.underlying3 ?_
  simp [Lit.wf, IntKind.min, IntKind.max, IntKind.signed, IntKind.bits]; omega
set_option maxHeartbeats 2000000 in
set_option maxRecDepth 100000 in
theorem impl_cyclesIn.calls (A0 : Option Addr) (c0 : Nat) (l0 : List S49) (w : World) (hr0 : Kd.C k49 w A0 l0.length l0) (hc0 : l0.length ≤ c0) (hlen : l0.length ≤ 1099511627776) :
    Calls Try.prog 86 #[.slice A0 l0.length c0] w fun e w' => Below w.heap.size w w' ∧
      ((cycOk l0 = true ∧ ∃ b, w.heap.size ≤ b ∧ e = .returned (.tuple #[.map (some b), .bool true]) ∧ w'.ownsMap Try.prog 3 (plainElem Try.prog 4) b l0.length (cycSet l0 l0.length)) ∨ (cycOk l0 = false ∧ e = .returned (.tuple #[.map none, .bool false]))) := by
  have hu49 := Try.underlying49
  have hmm := @run_makeMap Try.prog
  have HR := Aside0.mk hr0
  have HL := Aside0.mk hlen
  clear hr0 hlen
  go_enter Try.func86, Try.ntmps86
  go_wp2
  go_loopw [10] (fun i wr => ∃ (x : Int) (k : Nat), i = .int .i64 x ∧ Aside0 (x = k) ∧ Aside0 (k ≤ l0.length) ∧ Aside0 (wr.ownsMap Try.prog 3 (plainElem Try.prog 4) w.heap.size k (cycSet l0 k)) ∧ Aside0 (Below w.heap.size w wr) ∧ Aside0 (((l0.take k).all fun s => inR 0 1000000 s.f0) = true))
    (fun i _ => l0.length - (intOf i).toNat)
  case atStart => exact ⟨0, 0, rfl, ⟨rfl⟩, ⟨Nat.zero_le _⟩, ⟨by rw [cycSet_zero]; exact World.ownsMap_made _ _ _ _⟩, ⟨(Below.refl _ _).alloc (Nat.le_refl _) _⟩, ⟨by simp⟩⟩
  case round =>
    obtain ⟨x, k, rfl, HX, HK, HOWN, HB, HALL⟩ := hrel
    have HB2 := Aside0.mk (Below.refl wr.heap.size wr)
    by_cases hlt : k < l0.length
    · have p1 : 0 ≤ x := by have := HX.out; omega
      have q1 : x < (l0.length : Int) := by have := HX.out; omega
      have c1 : decide (x < (l0.length : Int)) = true := decide_eq_true q1
      have HLT := Aside0.mk hlt
      obtain ⟨ad1, e1, hx1_0, hx1_1, hx1_2⟩ := at_T49 HR.out x p1 q1
      cases e1
      replace hx1_0 := (HB.out.cell (World.block_lt_of_cell? w _ hx1_0)).trans hx1_0
      replace hx1_1 := (HB.out.cell (World.block_lt_of_cell? w _ hx1_1)).trans hx1_1
      replace hx1_2 := (HB.out.cell (World.block_lt_of_cell? w _ hx1_2)).trans hx1_2
      replace p1 := eq_true p1
      replace q1 := eq_true q1
      clear hlt
      cases hin : inR 0 1000000 (rd_T49 l0 x).f0 with
      | true =>
        have HIN := Aside0.mk hin
        clear hin
        have HINK := Aside0.mk (show inR 0 1000000 (rd_T49 l0 (k : Int)).f0 = true by rw [← HX.out]; exact HIN.out)
        have HW := Aside0.mk (show impl_within.f (rd_T49 l0 x).f0 0 1000000 = some true by rw [within_f, HIN.out])
        go_wp2_with (first
          | ((with_reducible refine gate_dst (N := 6) rfl ?_); refine box_event ?hg (N := 6) ?hd (cs := #[.int .i64 0, .int .i64 0, .int .i64 0]) (t := 49) ?hr ?_; (case hd => rfl); (case hg => rfl); (case hr => first | (go_simp; done) | (go_simp; rfl)); intro gb hg w13 hbox hb; have n1_ := Aside0.mk (below_step (by repeat (first | (with_reducible first | exact HB2.out | apply below_alloc | apply pw_below_drewN | apply below_drew1) | exact HB2.out)) hb); have BK := Aside0.mk hbox; have GE := Aside0.mk ((by rw [hg]; exact (below_size (by repeat (first | (with_reducible first | exact HB2.out | apply below_alloc | apply pw_below_drewN | apply below_drew1) | exact HB2.out))) : wr.heap.size ≤ gb)); clear HB2; have HB2 := n1_; clear n1_; clear hb hbox hg; have hcz0 : w13.cell? ⟨gb, 0, none⟩ = some (.int .i64 0) := (blk_cell BK.out 0).trans rfl; have hcz1 : w13.cell? ⟨gb, 1, none⟩ = some (.int .i64 0) := (blk_cell BK.out 1).trans rfl; have hcz2 : w13.cell? ⟨gb, 2, none⟩ = some (.int .i64 0) := (blk_cell BK.out 2).trans rfl; have hfz0 := blk_frozen BK.out 0; have hfz1 := blk_frozen BK.out 1; have hfz2 := blk_frozen BK.out 2)
          | ((with_reducible refine gate_callee (f := 69) rfl ?_); refine goesL_ (some 16) rfl rfl Try.func69 (by kernel_rfl) rfl #[.int .i64 ((rd_T49 l0 x).f0), .int .i64 0, .int .i64 1000000] rfl (by (try simp only [List.map_toArray, List.map_cons, List.map_nil]); first | done | rfl | (simp only [List.length_drop, List.length_take]; rfl)) ?_; (with_reducible refine (impl_within.calls _ _ _ true _ HW.out).mono ?_); rintro e w' ⟨rfl, ⟨nd, rfl⟩⟩; refine ⟨_, rfl, ?_⟩)
          | (at_mapUpdate; refine wpList_mapUpdate_own _ rfl _ _ _ 82 rfl 3 4 cyc_law Try.underlying82 (plainElem (H := Unit) Try.prog 4) w.heap.size k (cycSet l0 k) rfl (ownsMap_below HOWN.out (by repeat (first | (with_reducible first | exact HB2.out | apply below_alloc | apply pw_below_drewN | apply below_drew1 | refine below_set ?_ GE.out) | exact HB2.out))) (by have := HK.out; have := HL.out; unfold maxLen; omega) _ _ _ rfl rfl (cyc_key _ HIN.out) _ [] (plainElem_bool Try.underlying4 true) ?_; intro w14 hown1 hgrow1; have HO2 := Aside0.mk hown1; have HG2 := Aside0.mk (Below.grown (B := w.heap.size) (below_step HB.out (by repeat (first | (with_reducible first | exact HB2.out | apply below_alloc | apply pw_below_drewN | apply below_drew1 | refine below_set ?_ GE.out) | exact HB2.out))) hgrow1 (below_size (below_step HB.out (by repeat (first | (with_reducible first | exact HB2.out | apply below_alloc | apply pw_below_drewN | apply below_drew1 | refine below_set ?_ GE.out) | exact HB2.out)))) (fun j hj => by cases hj; exact Nat.le_refl _)); clear hown1 hgrow1)
          | go_in)
        go_roundw
        case measure => have := HLT.out; have := HX.out; have := HL.out; simp only [intOf]; unfold wrap64; omega
        case rel => exact ⟨_, k + 1, rfl, ⟨by have := HLT.out; have := HL.out; have := HX.out; (try unfold wrap64); omega⟩, ⟨HLT.out⟩, ⟨cycSet_grow l0 k _ _ (by have := HO2.out; rw [HX.out] at this; exact this) HLT.out⟩, ⟨HG2.out⟩, ⟨cycOk_take l0 k HLT.out HALL.out HINK.out⟩⟩
      | false =>
        have HIN := Aside0.mk hin
        clear hin
        have HINK := Aside0.mk (show inR 0 1000000 (rd_T49 l0 (k : Int)).f0 = false by rw [← HX.out]; exact HIN.out)
        have HW := Aside0.mk (show impl_within.f (rd_T49 l0 x).f0 0 1000000 = some false by rw [within_f, HIN.out])
        go_wp2_with (first
          | ((with_reducible refine gate_dst (N := 6) rfl ?_); refine box_event ?hg (N := 6) ?hd (cs := #[.int .i64 0, .int .i64 0, .int .i64 0]) (t := 49) ?hr ?_; (case hd => rfl); (case hg => rfl); (case hr => first | (go_simp; done) | (go_simp; rfl)); intro gb hg w13 hbox hb; have n1_ := Aside0.mk (below_step (by repeat (first | (with_reducible first | exact HB2.out | apply below_alloc | apply pw_below_drewN | apply below_drew1) | exact HB2.out)) hb); have BK := Aside0.mk hbox; have GE := Aside0.mk ((by rw [hg]; exact (below_size (by repeat (first | (with_reducible first | exact HB2.out | apply below_alloc | apply pw_below_drewN | apply below_drew1) | exact HB2.out))) : wr.heap.size ≤ gb)); clear HB2; have HB2 := n1_; clear n1_; clear hb hbox hg; have hcz0 : w13.cell? ⟨gb, 0, none⟩ = some (.int .i64 0) := (blk_cell BK.out 0).trans rfl; have hcz1 : w13.cell? ⟨gb, 1, none⟩ = some (.int .i64 0) := (blk_cell BK.out 1).trans rfl; have hcz2 : w13.cell? ⟨gb, 2, none⟩ = some (.int .i64 0) := (blk_cell BK.out 2).trans rfl; have hfz0 := blk_frozen BK.out 0; have hfz1 := blk_frozen BK.out 1; have hfz2 := blk_frozen BK.out 2)
          | ((with_reducible refine gate_callee (f := 69) rfl ?_); refine goesL_ (some 16) rfl rfl Try.func69 (by kernel_rfl) rfl #[.int .i64 ((rd_T49 l0 x).f0), .int .i64 0, .int .i64 1000000] rfl (by (try simp only [List.map_toArray, List.map_cons, List.map_nil]); first | done | rfl | (simp only [List.length_drop, List.length_take]; rfl)) ?_; (with_reducible refine (impl_within.calls _ _ _ false _ HW.out).mono ?_); rintro e w' ⟨rfl, ⟨nd, rfl⟩⟩; refine ⟨_, rfl, ?_⟩)
          | go_in)
        go_ret2
        exact ⟨below_step HB.out (by repeat (first | (with_reducible first | exact HB2.out | apply below_alloc | apply pw_below_drewN | apply below_drew1 | refine below_set ?_ GE.out) | exact HB2.out)), .inr ⟨cycOk_miss l0 k HLT.out HINK.out, by first | rfl | (simp; done)⟩⟩
    · have c1 : decide (x < (l0.length : Int)) = false := decide_eq_false (by have := HX.out; omega)
      have hk : k = l0.length := by have := HK.out; omega
      clear hlt
      have hok : cycOk l0 = true := by have := HALL.out; rw [hk, List.take_of_length_le (Nat.le_refl _)] at this; exact this
      have HO3 := Aside0.mk (show wr.ownsMap Try.prog 3 (plainElem Try.prog 4) w.heap.size l0.length (cycSet l0 l0.length) from hk ▸ HOWN.out)
      have HOK := Aside0.mk hok
      clear hk hok
      go_wp2
      go_ret2
      exact ⟨by repeat (first | (with_reducible first | exact HB.out | apply below_alloc | apply pw_below_drewN | apply below_drew1) | exact HB.out), .inl ⟨HOK.out, _, Nat.le_refl _, rfl, HO3.out⟩⟩

def cycMax (l : List S49) : Int := l.foldl (fun m s => mx m s.f0) (-1)
def cycOf (l : List S49) : Int := if cycOk l then cycMax l + 1 else 0
theorem cyc_bool_inv {P : Program} {e : TypeId} (he : P.underlying e = some .bool) {v : Value} {z : DataW Unit × List MemPlace} (h : plainElem P e v = some z) : ∃ c, v = .bool c := by
  unfold plainElem at h
  rw [he] at h
  cases v <;> simp at h
  exact ⟨_, rfl⟩
theorem cyc_has (l : List S49) (x : Int) : Maps.has (cycSet l l.length) (.int .i64 x) = true ↔ ∃ s ∈ l, s.f0 = x := by
  unfold cycSet
  rw [has_setOf _ _ _ (by intro y hy; simp only [cycKeys, List.mem_map] at hy; obtain ⟨s, _, rfl⟩ := hy; trivial), cycKeys, List.take_of_length_le (Nat.le_refl _)]
  simp only [List.any_map, List.any_eq_true, Function.comp_def]
  constructor
  · rintro ⟨s, hs, h⟩; exact ⟨s, hs, by simpa [Lit.sameKey] using h⟩
  · rintro ⟨s, hs, h⟩; exact ⟨s, hs, by simpa [Lit.sameKey] using h⟩
theorem cycMax_ge : ∀ (l : List S49) (m : Int), m ≤ l.foldl (fun m s => mx m s.f0) m ∧ ∀ s ∈ l, s.f0 ≤ l.foldl (fun m s => mx m s.f0) m
  | [], m => ⟨Int.le_refl _, by simp⟩
  | x :: r, m => by
    have h := cycMax_ge r (mx m x.f0)
    have e : m ≤ mx m x.f0 ∧ x.f0 ≤ mx m x.f0 := by unfold mx; split <;> omega
    refine ⟨by simp only [List.foldl_cons]; omega, fun s hs => ?_⟩
    simp only [List.foldl_cons]
    rcases List.mem_cons.mp hs with rfl | hs
    · omega
    · exact h.2 s hs
theorem cycMax_in : ∀ (l : List S49) (m : Int), l.foldl (fun m s => mx m s.f0) m = m ∨ ∃ s ∈ l, s.f0 = l.foldl (fun m s => mx m s.f0) m
  | [], m => .inl rfl
  | x :: r, m => by
    simp only [List.foldl_cons]
    rcases cycMax_in r (mx m x.f0) with h | ⟨s, hs, h⟩
    · have e : mx m x.f0 = m ∨ mx m x.f0 = x.f0 := by unfold mx; split <;> omega
      rcases e with e | e
      · left; rw [h, e]
      · right; exact ⟨x, by simp, by rw [h, e]⟩
    · right; exact ⟨s, by simp [hs], h⟩
/-- What the loop over the set has at its end is the greatest cycle. -/
theorem cycMax_is (l : List S49) (m : Int) (h1 : ∀ x, Maps.has (cycSet l l.length) (.int .i64 x) = true → x ≤ m) (h2 : m = -1 ∨ Maps.has (cycSet l l.length) (.int .i64 m) = true) (hm : -1 ≤ m) : m = cycMax l := by
  have g := cycMax_ge l (-1)
  have i := cycMax_in l (-1)
  have hle : cycMax l ≤ m := by
    rcases i with h | ⟨s, hs, h⟩
    · unfold cycMax; omega
    · have := h1 s.f0 ((cyc_has l _).mpr ⟨s, hs, rfl⟩)
      unfold cycMax; omega
  have hge : m ≤ cycMax l := by
    rcases h2 with h | h
    · unfold cycMax; omega
    · obtain ⟨s, hs, rfl⟩ := (cyc_has l _).mp h
      exact g.2 s hs
  omega
theorem cycMax_bd (l : List S49) (h : cycOk l = true) : -1 ≤ cycMax l ∧ cycMax l ≤ 1000000 := by
  have g := cycMax_ge l (-1)
  rcases cycMax_in l (-1) with i | ⟨s, hs, i⟩
  · unfold cycMax; omega
  · unfold cycOk at h
    rw [List.all_eq_true] at h
    have := (inR_iff _ _ _).mp (h s hs)
    unfold cycMax; omega
def impl_CyclesOf.f (l0 : List S49) : Option Int := if l0.length ≤ 1099511627776 then some (cycOf l0) else none
set_option maxHeartbeats 2000000 in
set_option maxRecDepth 100000 in
theorem impl_CyclesOf.calls (A0 : Option Addr) (c0 : Nat) (l0 : List S49) (r : Int) (w : World) (hr0 : Kd.C k49 w A0 l0.length l0) (hc0 : l0.length ≤ c0) (h : impl_CyclesOf.f l0 = some r) :
    Calls Try.prog 49 #[.slice A0 l0.length c0] w fun e w' => e = .returned (.int .i64 r) ∧ Below w.heap.size w w' := by
  have HR := Aside0.mk hr0
  have hlen : l0.length ≤ 1099511627776 := by unfold impl_CyclesOf.f at h; split at h; (assumption); (cases h)
  unfold impl_CyclesOf.f at h
  rw [if_pos hlen] at h
  obtain rfl := Option.some.inj h
  have HC := Aside0.mk (impl_cyclesIn.calls A0 c0 l0 w hr0 hc0 hlen)
  clear hr0 h
  go_enter Try.func49, Try.ntmps49
  go_wp2_with fail
  refine HC.out.mono ?_
  rintro e w1 ⟨hb, ⟨hok, b, hbs, rfl, hown⟩ | ⟨hok, rfl⟩⟩
  · have HB := Aside0.mk hb
    have HS := Aside0.mk hbs
    have HOK := Aside0.mk hok
    have hlt := hown.lt
    clear hb hbs hok
    go_wp2_with (first
      | (at_range; refine wpList_range_own _ rfl _ 82 rfl 3 4 cyc_law Try.underlying82 (plainElem (H := Unit) Try.prog 4) b l0.length (cycSet l0 l0.length) rfl hown ?_; intro w2 hrg2 hg2 hs2)
      | go_in)
    go_frame
    have HB3 := Aside0.mk (below_then (B := w.heap.size) HB.out (below_size HB.out) ((Below.refl w1.heap.size w1).grown hg2 (Nat.le_refl _) (fun j hj => by cases hj)))
    clear hown hg2 hs2
    go_loopw [5] (fun v wr => ∃ (m : Int) (left : Lit → Bool) (cnt : Nat), v = .int .i64 m ∧ wr.ranges Try.prog 3 (plainElem (H := Unit) Try.prog 4) b w1.heap.size l0.length (cycSet l0 l0.length) left cnt ∧ Aside0 (Below w.heap.size w wr) ∧
        Aside0 (∀ x, Maps.has (cycSet l0 l0.length) (.int .i64 x) = true → left (.int .i64 x) = false → x ≤ m) ∧ Aside0 ((m = -1 ∨ Maps.has (cycSet l0 l0.length) (.int .i64 m) = true) ∧ -1 ≤ m))
      (fun _ wr => wr.rangeLeft b w1.heap.size)
    case atStart => exact ⟨-1, _, _, rfl, hrg2, ⟨HB3.out⟩, ⟨fun x h1 h2 => by rw [h1] at h2; cases h2⟩, ⟨.inl rfl, by omega⟩⟩
    case round =>
      obtain ⟨m, left, cnt, rfl, hrg, HBR, HM1, HM2⟩ := hrel
      go_wp2_with (first
        | (at_next; refine wpList_next_ranges _ rfl _ rfl 3 cyc_law (plainElem (H := Unit) Try.prog 4) (Value.int .i64) Value.bool (fun key kl hk => by obtain ⟨x, h1, _⟩ := keyOf_int_inv Try.underlying3 hk; exact ⟨x, h1⟩) (fun v y hv => cyc_bool_inv Try.underlying4 hv) b w1.heap.size l0.length _ _ _ rfl hrg (fun hc0 hl0 => ?_) (fun x c kl y w4 cnt1 hkey hlk hv hat hrg1 hlt1 hg4 hs4 hen => ?_))
        | go_in)
      · go_ret
        have hm : m = cycMax l0 := cycMax_is l0 m (fun x hx => HM1.out x hx (hl0 _)) HM2.out.1 HM2.out.2
        refine ⟨?_, HBR.out⟩
        unfold cycOf
        rw [HOK.out, hm]
        have hbd := cycMax_bd l0 HOK.out
        have hwr : wrap64 (cycMax l0 + 1) = cycMax l0 + 1 := by unfold wrap64; omega
        rw [hwr]
        rfl
      · obtain ⟨x', ex, ekl, _⟩ := keyOf_int_inv Try.underlying3 hkey
        cases ex
        subst ekl
        have hx := has_true_of_atKey hat
        have hm := HM2.out
        refine ⟨⟨mx m x, _, cnt1, (by first | rfl | (congr 1; unfold mx; split <;> omega)), hrg1, ⟨HBR.out.grown hg4 (below_size HBR.out) (fun j hj => by cases hj; exact below_size HB.out)⟩, ⟨fun z hz1 hz2 => ?_⟩, ⟨?_, ?_⟩⟩, ?_⟩
        · have hmx : m ≤ mx m x ∧ x ≤ mx m x := by unfold mx; split <;> omega
          cases hlz : left (.int .i64 z) with
          | false => have := HM1.out z hz1 hlz; omega
          | true =>
            rw [hlz, Bool.true_and, Bool.not_eq_false'] at hz2
            have : z = x := by simpa [Lit.sameKey] using hz2
            omega
        · have e : mx m x = m ∨ mx m x = x := by unfold mx; split <;> omega
          rcases e with e | e
          · rw [e]; exact hm.1
          · rw [e]; exact .inr hx
        · have : m ≤ mx m x := by unfold mx; split <;> omega
          have := hm.2
          omega
        · rw [hrg1.left_eq, hrg.left_eq]; exact hlt1
  · go_wp2
    go_ret
    unfold cycOf
    rw [hok]
    exact ⟨by first | rfl | (simp; done), hb⟩

def cycIdle (l : List S49) : Int := if cycOk l then wrap64 (cycOf l - (Maps.size (cycSet l l.length) : Nat)) else 0
def impl_IdleCycles.f (l0 : List S49) : Option Int := if l0.length ≤ 1099511627776 then some (cycIdle l0) else none
set_option maxHeartbeats 2000000 in
set_option maxRecDepth 100000 in
theorem impl_IdleCycles.calls (A0 : Option Addr) (c0 : Nat) (l0 : List S49) (r : Int) (w : World) (hr0 : Kd.C k49 w A0 l0.length l0) (hc0 : l0.length ≤ c0) (h : impl_IdleCycles.f l0 = some r) :
    Calls Try.prog 50 #[.slice A0 l0.length c0] w fun e w' => e = .returned (.int .i64 r) ∧ Below w.heap.size w w' := by
  have HR := Aside0.mk hr0
  have hlen : l0.length ≤ 1099511627776 := by unfold impl_IdleCycles.f at h; split at h; (assumption); (cases h)
  unfold impl_IdleCycles.f at h
  rw [if_pos hlen] at h
  obtain rfl := Option.some.inj h
  have HC := Aside0.mk (impl_cyclesIn.calls A0 c0 l0 w hr0 hc0 hlen)
  have HD := Aside0.mk (fun W hr => impl_CyclesOf.calls A0 c0 l0 (cycOf l0) W hr hc0 (by unfold impl_CyclesOf.f; rw [if_pos hlen]))
  clear hr0 h
  go_enter Try.func50, Try.ntmps50
  go_wp2_with fail
  refine HC.out.mono ?_
  rintro e w1 ⟨hb, ⟨hok, b, hbs, rfl, hown⟩ | ⟨hok, rfl⟩⟩
  · have HB := Aside0.mk hb
    have HS := Aside0.mk hbs
    have HOK := Aside0.mk hok
    have HO := Aside0.mk hown
    clear hb hbs hok hown
    go_wp2_with fail
    refine (HD.out _ (Kd.C_below HR.out (by repeat (first | (with_reducible first | exact HB.out | apply below_alloc | apply pw_below_drewN | apply below_drew1) | exact HB.out)))).mono ?_
    rintro e w2 ⟨rfl, hb2⟩
    have HB2 := Aside0.mk hb2
    have hown2 := ownsMap_below HO.out HB2.out
    clear hb2
    go_wp2_with (first
      | (at_len; refine wpList_len_own _ rfl _ 82 rfl 3 4 Try.underlying82 _ b l0.length _ rfl hown2 ?_)
      | go_in)
    go_ret
    unfold cycIdle
    rw [HOK.out]
    exact ⟨rfl, by repeat (first | (with_reducible first | exact below_step HB.out HB2.out | apply below_alloc | apply pw_below_drewN | apply below_drew1) | exact below_step HB.out HB2.out)⟩
  · go_wp2
    go_ret
    unfold cycIdle
    rw [hok]
    exact ⟨by first | rfl | (simp; done), hb⟩

end Go.Proofs.Ytopckcppmpmcnaa.Q
