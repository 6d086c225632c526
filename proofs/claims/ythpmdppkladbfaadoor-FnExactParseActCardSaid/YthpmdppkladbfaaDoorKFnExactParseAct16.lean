/- The pure statement of FnExactParseAct. -/
import Derived.Test.YthpmdppkladbfaaDoorKFnExactParseAct15
namespace Go.Proofs.YthpmdppkladbfaaDoor.Q
open Go Go.RowKit Go.Proofs.YthpmdppkladbfaaDoorW.PrintWords Go.Proofs.YthpmdppkladbfaaDoorW.PrintLast Go.Proofs.YthpmdppkladbfaaDoorW.PrintMore
set_option linter.unusedVariables false
set_option linter.unusedSimpArgs false

/-- The bytes ahead of the first space. -/
def headW (l : List UInt8) : List UInt8 := l.takeWhile (· != 32)
theorem headW_app (a r : List UInt8) (h : (32 : UInt8) ∉ a) : headW (a ++ 32 :: r) = a := by
  unfold headW
  induction a with
  | nil => rfl
  | cons b a ih =>
    have hb : (b != 32) = true := by
      apply bne_iff_ne.mpr
      intro e; exact h (by simp [e])
    rw [List.cons_append, List.takeWhile_cons, if_pos hb, ih (fun e => h (by simp [e]))]
theorem no32_dec (n : Nat) : (32 : UInt8) ∉ (decB (n : Int)).data.toList := by
  rw [decB_bytes]
  intro h
  have := (digits_ge n 32 h).1
  exact absurd this (by decide)
theorem no32_name (k : Int) (h : k = 1 ∨ k = 2 ∨ k = 3 ∨ k = 4) : (32 : UInt8) ∉ (nameK k).data.toList := by
  rcases h with rfl | rfl | rfl | rfl <;> decide
theorem ba_app (a b : ByteArray) : (a ++ b).data.toList = a.data.toList ++ b.data.toList := by
  rw [ByteArray.data_append, Array.toList_append]
theorem actB_bytes (k a b : Int) : (actB k a b).data.toList = (nameK k).data.toList ++ 32 :: (if k = 3 then (decB a).data.toList else (decB a).data.toList ++ 32 :: (decB b).data.toList) := by
  unfold actB
  by_cases c : k = 3
  · rw [if_pos c, if_pos c, ba_app, ba_app]
    simp
  · rw [if_neg c, if_neg c, ba_app, ba_app, ba_app, ba_app]
    simp
theorem count_app (a r : List UInt8) (h : (32 : UInt8) ∉ a) : (a ++ 32 :: r).count 32 = r.count 32 + 1 := by
  rw [List.count_append, List.count_eq_zero_of_not_mem h, List.count_cons_self]; omega
theorem actB_count (k a b : Int) (hk : k = 1 ∨ k = 2 ∨ k = 3 ∨ k = 4) (ha : 0 ≤ a) (hb : 0 ≤ b) : (actB k a b).data.toList.count 32 ≤ 2 := by
  obtain ⟨x, rfl⟩ := Int.eq_ofNat_of_zero_le ha
  obtain ⟨y, rfl⟩ := Int.eq_ofNat_of_zero_le hb
  rw [actB_bytes, count_app _ _ (no32_name k hk)]
  by_cases c : k = 3
  · rw [if_pos c, List.count_eq_zero_of_not_mem (no32_dec x)]; omega
  · rw [if_neg c, count_app _ _ (no32_dec x), List.count_eq_zero_of_not_mem (no32_dec y)]; omega
theorem joinB_cons (w : ByteArray) (ws : List ByteArray) : (joinB (w :: ws)).data.toList = w.data.toList ++ (ws.map fun x => 32 :: x.data.toList).flatten := by
  unfold joinB
  rw [List.map_cons, Lib.join_cons]
  unfold Lib.joinTail
  simp [List.map_map, Function.comp_def]
theorem flat_count (ws : List ByteArray) (h : ∀ w ∈ ws, (32 : UInt8) ∉ w.data.toList) : (ws.map fun x => 32 :: x.data.toList).flatten.count 32 = ws.length := by
  induction ws with
  | nil => rfl
  | cons w ws ih =>
    rw [List.map_cons, List.flatten_cons, List.cons_append, List.count_cons_self, List.count_append, List.count_eq_zero_of_not_mem (h w (by simp)), ih (fun x hx => h x (by simp [hx]))]
    simp
theorem joinB_count (ws : List ByteArray) (h : ∀ w ∈ ws, (32 : UInt8) ∉ w.data.toList) : (joinB ws).data.toList.count 32 = ws.length - 1 := by
  cases ws with
  | nil => rfl
  | cons w ws =>
    rw [joinB_cons, List.count_append, List.count_eq_zero_of_not_mem (h w (by simp)), flat_count ws (fun x hx => h x (by simp [hx]))]
    simp
theorem idx_name (k : Int) (h : k = 1 ∨ k = 2 ∨ k = 3 ∨ k = 4) : idxName (nameK k) = k := by
  rcases h with rfl | rfl | rfl | rfl <;> decide +kernel
/-- Where an act's text is the words with spaces between, the first word is the act's name. -/
theorem act_first {k a b : Int} (hk : k = 1 ∨ k = 2 ∨ k = 3 ∨ k = 4) {w x : ByteArray} {ws : List ByteArray} (hw : (32 : UInt8) ∉ w.data.toList) (h : (actB k a b).toList = (joinB (w :: x :: ws)).toList) : idxName w = k := by
  rw [ba_toList, ba_toList, actB_bytes, joinB_cons, List.map_cons, List.flatten_cons, List.cons_append] at h
  have h2 := congrArg headW h
  rw [headW_app _ _ (no32_name k hk), headW_app _ _ hw] at h2
  have : w = nameK k := ByteArray.ext (Array.toList_inj.mp h2.symm)
  rw [this, idx_name k hk]
/-- FormatAct as a plain function. -/
def fmtT (k a b : Int) : ByteArray × Bool := match impl_ActOk.f k a b with | some true => (actB k a b, true) | _ => (⟨#[]⟩, false)
theorem format_eq (k a b : Int) : impl_FormatAct.f k a b = some (fmtT k a b) := by
  unfold impl_FormatAct.f fmtT
  obtain ⟨t, ht⟩ := actOk_some k a b
  rw [ht, Option.bind_some]
  cases t <;> rfl
theorem fmt_true {k a b : Int} (h : (fmtT k a b).2 = true) : (k = 1 ∨ k = 2 ∨ k = 3 ∨ k = 4) ∧ 0 ≤ a ∧ 0 ≤ b ∧ (fmtT k a b).1 = actB k a b := by
  unfold fmtT at h ⊢
  split at h
  · rename_i ht
    obtain ⟨h1, h2, h3⟩ := actOk_bounds ht
    exact ⟨h1, h2.1, h3.1, rfl⟩
  · simp at h
/-- What the loop over the kinds finds. -/
def tryK (s : ByteArray) (k a b : Int) : Bool := (fmtT k a b).2 && decide ((fmtT k a b).1.toList = s.toList)
theorem spec_l1 (m : Nat) (s : ByteArray) (ns : List Int) (hn : 1 < ns.length) (x : Int) : spec_ParseAct.l1 (m + 1) s ns x = if x ≤ 4 then (if tryK s x (rd ns 0) (rd ns 1) = true then some (x, rd ns 0, rd ns 1, true) else spec_ParseAct.l1 m s ns (wrap64 (x + 1))) else some (0, 0, 0, false) := by
  rw [spec_ParseAct.l1]
  by_cases c : x ≤ 4
  · rw [if_pos c, if_pos c, if_pos (by omega), if_pos (by omega), spec_FormatAct_f, format_eq, Option.bind_some]
    unfold tryK
    by_cases h1 : (fmtT x (rd ns 0) (rd ns 1)).2 = true
    · rw [if_pos h1, h1]
      by_cases h2 : (fmtT x (rd ns 0) (rd ns 1)).1.toList = s.toList
      · rw [if_pos h2, decide_eq_true h2]; rfl
      · rw [if_neg h2, decide_eq_false h2]; rfl
    · rw [if_neg h1, Bool.eq_false_iff.mpr h1]; rfl
  · rw [if_neg c, if_neg c]
theorem spec_l1_all (m : Nat) (s : ByteArray) (ns : List Int) (hn : 1 < ns.length) (j : Int) (hj : ∀ k, tryK s k (rd ns 0) (rd ns 1) = true → k = j) :
    spec_ParseAct.l1 (m + 5) s ns 1 = some (if tryK s j (rd ns 0) (rd ns 1) = true then (j, rd ns 0, rd ns 1, true) else (0, 0, 0, false)) := by
  have w1 : wrap64 (1 + 1) = 2 := by decide +kernel
  have w2 : wrap64 (2 + 1) = 3 := by decide +kernel
  have w3 : wrap64 (3 + 1) = 4 := by decide +kernel
  have w4 : wrap64 (4 + 1) = 5 := by decide +kernel
  rw [spec_l1 _ _ _ hn, if_pos (show (1 : Int) ≤ 4 by decide), w1, spec_l1 _ _ _ hn, if_pos (show (2 : Int) ≤ 4 by decide), w2, spec_l1 _ _ _ hn, if_pos (show (3 : Int) ≤ 4 by decide), w3, spec_l1 _ _ _ hn, if_pos (show (4 : Int) ≤ 4 by decide), w4, spec_l1 _ _ _ hn, if_neg (show ¬ (5 : Int) ≤ 4 by decide)]
  by_cases hq : tryK s j (rd ns 0) (rd ns 1) = true
  · rw [if_pos hq]
    have hjk : j = 1 ∨ j = 2 ∨ j = 3 ∨ j = 4 := by
      unfold tryK at hq
      simp only [Bool.and_eq_true] at hq
      exact (fmt_true hq.1).1
    have hne : ∀ k, k ≠ j → ¬ tryK s k (rd ns 0) (rd ns 1) = true := fun k hk h => hk (hj k h)
    rcases hjk with rfl | rfl | rfl | rfl
    · rw [if_pos hq]
    · rw [if_neg (hne 1 (by decide)), if_pos hq]
    · rw [if_neg (hne 1 (by decide)), if_neg (hne 2 (by decide)), if_pos hq]
    · rw [if_neg (hne 1 (by decide)), if_neg (hne 2 (by decide)), if_neg (hne 3 (by decide)), if_pos hq]
  · rw [if_neg hq]
    have hne : ∀ k, ¬ tryK s k (rd ns 0) (rd ns 1) = true := fun k h => hq ((hj k h) ▸ h)
    rw [if_neg (hne 1), if_neg (hne 2), if_neg (hne 3), if_neg (hne 4)]
/-- The program's answer for three words or two. -/
theorem impl_of (ws : List ByteArray) (s : ByteArray) (j a b : Int) (hs : s.toList = (joinB ws).toList) (ha : actOfB ws = (j, a, b)) :
    ((impl_FormatAct.f (actOfB ws).1 (actOfB ws).2.1 (actOfB ws).2.2).bind fun u => if u.2 = true then (if u.1.toList = (joinB ws).toList then some ((actOfB ws).1, (actOfB ws).2.1, (actOfB ws).2.2, true) else some (0, 0, 0, false)) else some (0, 0, 0, false)) = some (if tryK s j a b = true then (j, a, b, true) else (0, 0, 0, false)) := by
  rw [ha]
  simp only
  rw [format_eq, Option.bind_some]
  unfold tryK
  by_cases h1 : (fmtT j a b).2 = true
  · rw [if_pos h1, h1, hs]
    by_cases h2 : (fmtT j a b).1.toList = (joinB ws).toList
    · rw [if_pos h2, decide_eq_true h2]; rfl
    · rw [if_neg h2, decide_eq_false h2]; rfl
  · rw [if_neg h1, Bool.eq_false_iff.mpr h1]; rfl
theorem sp_sz : (⟨#[32]⟩ : ByteArray).size = 1 := rfl
theorem FnExactParseAct_same (s : ByteArray) : spec_ParseAct.f 2010 s = impl_ParseAct.f s := by
  unfold spec_ParseAct.f impl_ParseAct.f
  have hsm : spec_SplitFields.f 2010 s = impl_SplitFields.f s := by
    have h0 := spec_SplitFields_f s
    obtain ⟨y, hy⟩ : ∃ y, impl_SplitFields.f s = some y := by
      unfold impl_SplitFields.f
      repeat' split
      all_goals exact ⟨_, rfl⟩
    rw [hy] at h0 ⊢
    have key : ∀ d, spec_SplitFields.f (2000 + d) s = some y := by
      intro d
      induction d with
      | zero => exact h0
      | succ d ih => exact spec_SplitFields.mono _ _ _ ih
    exact key 10
  rw [hsm]
  cases hS : impl_SplitFields.f s with
  | none => rfl
  | some t =>
    obtain ⟨ws, ok⟩ := t
    rw [Option.bind_some, Option.bind_some]
    cases ok with
    | false =>
      simp only [Bool.false_eq_true, if_false]
      rw [spec_ParseAct.j0, if_pos rfl]
    | true =>
      simp only [if_true]
      rw [l01In_f, Option.bind_some]
      obtain ⟨hsz, hws, h24⟩ := words_size hS
      have h32 : ∀ w ∈ ws, (32 : UInt8) ∉ w.data.toList := fun w hw => word_no32 (hws ▸ hw)
      have hwl : ∀ w ∈ ws, w.size ≤ 600 := fun w hw => by have := word_le (hws ▸ hw); omega
      clear hws hsm
      match ws, h24, h32, hwl with
      | [], _, _, _ => rfl
      | [w0], _, _, _ => rfl
      | [w0, w1], _, h32, hwl =>
        have z0 := hwl w0 (by simp)
        have z1 := hwl w1 (by simp)
        rw [if_neg (by simp)]
        have hL : (([w0, w1] : List ByteArray).length : Int) = 2 := rfl
        have hir : inR 2 3 (([w0, w1] : List ByteArray).length : Int) = true := by rw [hL]; decide
        rw [hir]
        have ha : actOfB [w0, w1] = (idxName w0, (uintB w1).1, 0) := rfl
        have hj : ((w0 ++ (⟨#[32]⟩ : ByteArray)) ++ w1).toList = (joinB [w0, w1]).toList := by
          rw [ba_toList, ba_toList, joinB_cons, ba_app, ba_app]
          simp
        rw [impl_of _ _ _ _ _ hj ha]
        rw [spec_ParseAct.j0, if_neg (by decide), if_pos (by rw [hL]; decide)]
        rw [spec_ParseAct.l0, if_pos (by rw [hL]; decide)]
        rw [show rdOf ByteArray.empty [w0, w1] 0 = w0 from rfl, show rdOf ByteArray.empty [w0, w1] 1 = w1 from rfl]
        rw [if_pos (by omega), if_pos (by decide), if_pos (by rw [ByteArray.size_append, sp_sz]; omega), spec_ParseUint_f w1 z1 _ (by omega), Option.bind_some, if_pos (by decide)]
        rw [show wrap64 (1 + 1) = 2 by decide +kernel, spec_ParseAct.l0, if_neg (by rw [hL]; decide), if_pos (by simp)]
        exact spec_l1_all _ _ _ (by simp) _ (fun k hk => by
          unfold tryK at hk
          simp only [Bool.and_eq_true, decide_eq_true_eq] at hk
          obtain ⟨hkk, _, _, he⟩ := fmt_true hk.1
          have h3 := hk.2
          rw [he, hj] at h3
          exact (act_first hkk (h32 w0 (by simp)) h3).symm)
      | [w0, w1, w2], _, h32, hwl =>
        have z0 := hwl w0 (by simp)
        have z1 := hwl w1 (by simp)
        have z2 := hwl w2 (by simp)
        rw [if_neg (by simp)]
        have hL : (([w0, w1, w2] : List ByteArray).length : Int) = 3 := rfl
        have hir : inR 2 3 (([w0, w1, w2] : List ByteArray).length : Int) = true := by rw [hL]; decide
        rw [hir]
        have ha : actOfB [w0, w1, w2] = (idxName w0, (uintB w1).1, (uintB w2).1) := rfl
        have hj : ((((w0 ++ (⟨#[32]⟩ : ByteArray)) ++ w1) ++ (⟨#[32]⟩ : ByteArray)) ++ w2).toList = (joinB [w0, w1, w2]).toList := by
          rw [ba_toList, ba_toList, joinB_cons, ba_app, ba_app, ba_app, ba_app]
          simp
        rw [impl_of _ _ _ _ _ hj ha]
        rw [spec_ParseAct.j0, if_neg (by decide), if_pos (by rw [hL]; decide)]
        rw [spec_ParseAct.l0, if_pos (by rw [hL]; decide)]
        rw [show rdOf ByteArray.empty [w0, w1, w2] 0 = w0 from rfl, show rdOf ByteArray.empty [w0, w1, w2] 1 = w1 from rfl]
        rw [if_pos (by omega), if_pos (by decide), if_pos (by rw [ByteArray.size_append, sp_sz]; omega), spec_ParseUint_f w1 z1 _ (by omega), Option.bind_some, if_pos (by decide)]
        rw [show wrap64 (1 + 1) = 2 by decide +kernel, spec_ParseAct.l0, if_pos (by rw [hL]; decide), show rdOf ByteArray.empty [w0, w1, w2] 2 = w2 from rfl]
        rw [if_pos (by rw [ByteArray.size_append, ByteArray.size_append, sp_sz]; omega), if_pos (by decide), if_pos (by rw [ByteArray.size_append, ByteArray.size_append, ByteArray.size_append, sp_sz]; omega), spec_ParseUint_f w2 z2 _ (by omega), Option.bind_some, if_pos (by simp)]
        rw [show wrap64 (2 + 1) = 3 by decide +kernel, spec_ParseAct.l0, if_neg (by rw [hL]; decide), if_pos (by simp)]
        exact spec_l1_all _ _ _ (by simp) _ (fun k hk => by
          unfold tryK at hk
          simp only [Bool.and_eq_true, decide_eq_true_eq] at hk
          obtain ⟨hkk, _, _, he⟩ := fmt_true hk.1
          have h3 := hk.2
          rw [he, hj] at h3
          exact (act_first hkk (h32 w0 (by simp)) h3).symm)
      | w0 :: w1 :: w2 :: w3 :: r, _, h32, hwl =>
        have hir : inR 2 3 ((w0 :: w1 :: w2 :: w3 :: r : List ByteArray).length : Int) = false := (inR_false _ _ _).mpr (by simp only [List.length_cons]; omega)
        rw [hir, if_neg (by simp)]
        rw [spec_ParseAct.j0, if_pos (by decide)]
        rw [format_eq, Option.bind_some]
        by_cases h1 : (fmtT (actOfB (w0 :: w1 :: w2 :: w3 :: r)).1 (actOfB (w0 :: w1 :: w2 :: w3 :: r)).2.1 (actOfB (w0 :: w1 :: w2 :: w3 :: r)).2.2).2 = true
        · rw [if_pos h1, if_neg]
          intro h2
          obtain ⟨hk, ha, hb, he⟩ := fmt_true h1
          rw [he, ba_toList, ba_toList] at h2
          have h3 := actB_count _ _ _ hk ha hb
          rw [h2, joinB_count _ h32] at h3
          simp only [List.length_cons] at h3
          omega
        · rw [if_neg h1]
theorem FnExactParseAct : ∀ (a0 : ByteArray), a0.size ≤ 140737488351232 → ∃ k, laws_FnExactParseAct.f k a0 = some true := by
  intro s _
  refine ⟨2010, ?_⟩
  unfold laws_FnExactParseAct.f
  by_cases h : (s.size : Int) > 1048576
  · rw [if_pos h]
  · rw [if_neg h, FnExactParseAct_same]
    have : ∃ y, impl_ParseAct.f s = some y := by
      unfold impl_ParseAct.f
      obtain ⟨y, hy⟩ : ∃ y, impl_SplitFields.f s = some y := by
        unfold impl_SplitFields.f
        repeat' split
        all_goals exact ⟨_, rfl⟩
      rw [hy, Option.bind_some]
      split
      · split
        · exact ⟨_, rfl⟩
        · rw [format_eq, Option.bind_some]
          repeat' split
          all_goals exact ⟨_, rfl⟩
      · exact ⟨_, rfl⟩
    obtain ⟨y, hy⟩ := this
    rw [hy, Option.bind_some, Option.bind_some]
    unfold laws_eqAct.f
    simp

end Go.Proofs.YthpmdppkladbfaaDoor.Q
