/- The words of a line: the reference's splitting at spaces is the library's Fields, where every byte is printable. -/
import Derived.Test.YthpmdppkladbfaaDoorKFnExactParseAct13
namespace Go.Proofs.YthpmdppkladbfaaDoor.Q
open Go Go.RowKit Go.Proofs.YthpmdppkladbfaaDoorW.PrintWords Go.Proofs.YthpmdppkladbfaaDoorW.PrintLast Go.Proofs.YthpmdppkladbfaaDoorW.PrintMore
set_option linter.unusedVariables false
set_option linter.unusedSimpArgs false

def outU (b : UInt8) : Bool := outB (b.toNat : Int)
theorem any_out (s : ByteArray) : (bytesOf s).any outB = s.data.toList.any outU := by
  unfold bytesOf
  rw [List.any_map]; rfl
theorem byte_at_ (s : ByteArray) (i : Nat) (h : i < s.size) : bt s (i : Int) = ((s.data.toList[i]'(by rw [data_length]; exact h)).toNat : Int) := by
  unfold bt
  rw [dif_pos (show (i : Int).toNat < s.size by omega)]
  rfl
theorem isSp_iff (b : UInt8) (h : outU b = false) : Lib.isSp b = decide (b.toNat = 32) := by
  unfold outU outB at h
  simp at h
  have e : ∀ c : UInt8, c.toNat < 32 → (b == c) = false := fun c hc => by
    apply beq_eq_false_iff_ne.mpr
    intro hb
    rw [hb] at h
    omega
  unfold Lib.isSp
  rw [e 9 (by decide), e 10 (by decide), e 11 (by decide), e 12 (by decide), e 13 (by decide)]
  simp only [Bool.false_or]
  by_cases hb : b = 32
  · subst hb; rfl
  · rw [beq_eq_false_iff_ne.mpr hb]
    symm
    apply decide_eq_false
    intro h2
    exact hb (UInt8.toNat_inj.mp (by rw [h2]; rfl))
def cutL (l : List UInt8) (b i : Nat) : List UInt8 := (l.drop b).take (i - b)
theorem extract_cut (s : ByteArray) (b i : Nat) : s.extract b i = ⟨(cutL s.data.toList b i).toArray⟩ := by
  apply ByteArray.ext
  rw [ByteArray.data_extract]
  apply Array.toList_inj.mp
  rw [Array.toList_extract]
  simp [cutL, List.extract_eq_take_drop]
theorem cut_succ (l : List UInt8) (b i : Nat) (hb : b ≤ i) (hi : i < l.length) : cutL l b (i + 1) = cutL l b i ++ [l[i]] := by
  unfold cutL
  have e : i + 1 - b = (i - b) + 1 := by omega
  rw [e, List.take_add_one]
  congr 1
  rw [List.getElem?_drop, show b + (i - b) = i by omega, List.getElem?_eq_getElem hi]
  rfl
theorem cut_self (l : List UInt8) (i : Nat) : cutL l i i = [] := by unfold cutL; simp
theorem cut_ne (l : List UInt8) (b i : Nat) (hb : b < i) (hi : i ≤ l.length) : cutL l b i ≠ [] := by
  unfold cutL
  intro h
  have := congrArg List.length h
  simp at this
  omega
def toBA (l : List UInt8) : ByteArray := ⟨l.toArray⟩
def splitEnd (r : List ByteArray) : Option (List ByteArray × Bool) := if (r.length : Int) > 24 then some ([], false) else some (r, true)
theorem w1_ (i : Nat) (h : i ≤ 600) : wrap64 ((i : Int) + 1) = ((i + 1 : Nat) : Int) := by unfold wrap64; omega
theorem spec_split_run (s : ByteArray) (hs : s.size ≤ 600) : ∀ (d : Nat) (k : Nat) (out : List ByteArray) (b i : Nat), s.size - i = d → i ≤ s.size → b ≤ i → out.length ≤ i → 3 * d + 5 ≤ k →
    spec_SplitFields.l0 k s out b i = if (s.data.toList.drop i).any outU = true then some ([], false) else splitEnd (out ++ (Lib.fieldsGo (cutL s.data.toList b i) (s.data.toList.drop i)).map toBA) := by
  have hl : s.data.toList.length = s.size := data_length s
  intro d
  induction d with
  | zero =>
    intro k out b i hd hi hb ho hk
    have hin : i = s.size := by omega
    subst hin
    obtain ⟨k, rfl⟩ : ∃ m, k = m + 4 := ⟨k - 4, by omega⟩
    rw [List.drop_of_length_le (by omega), List.any_nil, if_neg (by simp)]
    unfold spec_SplitFields.l0
    rw [if_pos (by omega), if_neg (by omega)]
    unfold spec_SplitFields.j1
    rw [if_neg (by simp), if_neg (by omega)]
    unfold spec_SplitFields.j2
    rw [if_neg (by simp)]
    have fin : ∀ (o : List ByteArray), spec_SplitFields.l0 (k + 1) s o (wrap64 ((s.size : Int) + 1)) (wrap64 ((s.size : Int) + 1)) = splitEnd o := by
      intro o
      rw [w1_ _ hs]
      unfold spec_SplitFields.l0
      rw [if_neg (by omega)]; rfl
    by_cases hbi : b < s.size
    · rw [if_pos (by omega), if_pos (by omega), if_pos (by omega), if_pos (by omega), if_pos (by omega), fin]
      congr 1
      have hc := cut_ne s.data.toList b s.size hbi (by omega)
      unfold Lib.fieldsGo
      rw [if_neg (by simpa using hc)]
      rw [Int.toNat_natCast, Int.toNat_natCast, extract_cut]
      rfl
    · rw [if_neg (by omega), fin]
      have : b = s.size := by omega
      rw [this, cut_self]
      simp [Lib.fieldsGo]
  | succ d ih =>
    intro k out b i hd hi hb ho hk
    have hlt : i < s.data.toList.length := by omega
    obtain ⟨k, rfl⟩ : ∃ m, k = m + 3 := ⟨k - 3, by omega⟩
    have hbt := byte_at_ s i (by omega)
    rw [List.drop_eq_getElem_cons hlt, List.any_cons]
    unfold spec_SplitFields.l0
    rw [if_pos (by omega), if_pos (by omega), if_pos (by omega), hbt]
    generalize hx : s.data.toList[i] = x
    cases hox : outU x with
    | true =>
      simp only [Bool.true_or, if_true]
      unfold outU outB at hox
      by_cases h1 : (x.toNat : Int) < 32
      · rw [if_pos h1]
        unfold spec_SplitFields.j1
        rw [if_pos rfl]
      · rw [if_neg h1]
        have h2 : (x.toNat : Int) > 126 := by simpa [h1] using hox
        unfold spec_SplitFields.j1
        rw [if_pos (by simpa using h2)]
    | false =>
      simp only [Bool.false_or]
      have hsp := isSp_iff x hox
      unfold outU outB at hox
      have h1 : ¬ (x.toNat : Int) < 32 := by intro h; simp [h] at hox
      have h2 : ¬ (x.toNat : Int) > 126 := by intro h; simp [h] at hox
      rw [if_neg h1]
      unfold spec_SplitFields.j1
      rw [if_neg (by simpa using h2), if_pos (by omega), if_pos (by omega), hbt, hx]
      unfold spec_SplitFields.j2
      by_cases h32 : x.toNat = 32
      · rw [if_neg (by simp [h32])]
        rw [decide_eq_true h32] at hsp
        by_cases hbi : b < i
        · rw [if_pos (by omega), if_pos (by omega), if_pos (by omega), if_pos (by omega), if_pos (by omega), w1_ i (by omega)]
          rw [ih k _ (i + 1) (i + 1) (by omega) (by omega) (by omega) (by simp; omega) (by omega)]
          rw [cut_self, Lib.fieldsGo_end _ _ _ hsp (cut_ne _ _ _ hbi (by omega))]
          rw [Int.toNat_natCast, Int.toNat_natCast, extract_cut]
          simp only [List.map_cons, List.append_assoc, List.singleton_append, toBA]
        · rw [if_neg (by omega), w1_ i (by omega)]
          have hbe : b = i := by omega
          subst hbe
          rw [ih k _ (b + 1) (b + 1) (by omega) (by omega) (by omega) (by omega) (by omega)]
          rw [cut_self, cut_self, Lib.fieldsGo_sp _ _ hsp]
      · rw [if_pos (by simp; omega)]
        rw [decide_eq_false h32] at hsp
        rw [w1_ i (by omega)]
        rw [ih k _ b (i + 1) (by omega) (by omega) (by omega) (by omega) (by omega)]
        rw [cut_succ _ _ _ hb hlt, hx, Lib.fieldsGo_more _ _ _ hsp]
theorem spec_SplitFields_f (s : ByteArray) : spec_SplitFields.f 2000 s = impl_SplitFields.f s := by
  unfold spec_SplitFields.f impl_SplitFields.f
  rw [Option.bind_some]
  by_cases h : (s.size : Int) > 600
  · rw [if_pos h, if_pos h]
  · rw [if_neg h, if_neg h]
    have h1 := spec_split_run s (by omega) s.size 2000 [] 0 0 (by omega) (by omega) (by omega) (by simp) (by omega)
    rw [any_out]
    rw [show (0 : Int) = ((0 : Nat) : Int) from rfl, h1]
    rw [cut_self, List.drop_zero, List.nil_append]
    split
    · rfl
    · rfl
theorem fieldsGo_good : ∀ (l cur : List UInt8), (∀ b ∈ cur, Lib.isSp b = false) → ∀ x ∈ Lib.fieldsGo cur l, ∀ b ∈ x, Lib.isSp b = false
  | [], cur, hc, x, hx => by
    unfold Lib.fieldsGo at hx
    split at hx
    · simp at hx
    · simp at hx; subst hx; exact hc
  | b :: l, cur, hc, x, hx => by
    unfold Lib.fieldsGo at hx
    split at hx
    · split at hx
      · exact fieldsGo_good l [] (by simp) x hx
      · rcases List.mem_cons.1 hx with rfl | hx
        · exact hc
        · exact fieldsGo_good l [] (by simp) x hx
    · rename_i hb
      refine fieldsGo_good l (cur ++ [b]) (fun c hcm => ?_) x hx
      rcases List.mem_append.1 hcm with h | h
      · exact hc c h
      · simp at h; subst h; simpa using hb
theorem word_no32 {s x : ByteArray} (hx : x ∈ fieldsB s) : (32 : UInt8) ∉ x.data.toList := by
  unfold fieldsB at hx
  obtain ⟨l, hl, rfl⟩ := List.mem_map.1 hx
  intro h
  have := fieldsGo_good s.data.toList [] (by simp) l hl 32 (by simpa using h)
  exact absurd this (by decide)

end Go.Proofs.YthpmdppkladbfaaDoor.Q
