/- The number of a text: the reference's reading and the program's are the same. -/
import Derived.Test.YthpmdppkladbfaaDoorKFnExactParseAct14
import Derived.Lib.AtoiTie
namespace Go.Proofs.YthpmdppkladbfaaDoor.Q
open Go Go.RowKit Go.Proofs.YthpmdppkladbfaaDoorW.PrintWords Go.Proofs.YthpmdppkladbfaaDoorW.PrintLast Go.Proofs.YthpmdppkladbfaaDoorW.PrintMore
set_option linter.unusedVariables false
set_option linter.unusedSimpArgs false

theorem digitVal_of (d : Nat) (h : d < 10) : Lib.digitVal (UInt8.ofNat (48 + d)) = some d := by
  unfold Lib.digitVal
  have e : (UInt8.ofNat (48 + d)).toNat = 48 + d := by rw [UInt8.toNat_ofNat']; omega
  rw [e, if_pos (by omega)]
  congr 1; omega
theorem decFrom_append (l m : List UInt8) : ∀ acc, Lib.decFrom acc (l ++ m) = (Lib.decFrom acc l).bind fun n => Lib.decFrom n m := by
  induction l with
  | nil => intro acc; rfl
  | cons b r ih =>
    intro acc
    simp only [List.cons_append, Lib.decFrom]
    cases Lib.digitVal b with
    | none => rfl
    | some d => exact ih _
theorem decFrom_digits : ∀ (u : Nat), Lib.decFrom 0 (Lib.decDigits u) = some u := by
  intro u
  induction u using Nat.strongRecOn with
  | ind u ih =>
    rw [Lib.decDigits]
    by_cases c : u < 10
    · rw [dif_pos c]; simp only [Lib.decFrom, digitVal_of u c]; simp
    · rw [dif_neg c, decFrom_append, ih (u / 10) (by omega)]
      simp only [Option.bind_some, Lib.decFrom, digitVal_of (u % 10) (by omega)]
      congr 1; omega
theorem decDigits_ne (u : Nat) : Lib.decDigits u ≠ [] := by
  rw [Lib.decDigits]; split <;> simp
theorem digits_ge (u : Nat) : ∀ b ∈ Lib.decDigits u, 48 ≤ b.toNat ∧ b.toNat ≤ 57 := by
  intro b hb
  obtain ⟨k, hk⟩ := List.getElem?_of_mem hb
  obtain ⟨d, hd⟩ := Lib.digit_of_decFrom _ _ _ (decFrom_digits u) k b hk
  have := Lib.digitVal_eq hd
  omega
theorem digits_len (u : Nat) (h : u ≤ 1000000000) : (Lib.decDigits u).length ≤ 10 := by
  rw [Lib.decDigits_length]
  rcases Nat.lt_or_ge 10 (Lib.nDigits u) with hc | hc
  · exfalso
    have key : ∀ (k v : Nat), k + 1 < Lib.nDigits v → 10 ^ (k + 1) ≤ v := by
      intro k
      induction k with
      | zero =>
        intro v hv
        rcases Nat.lt_or_ge v 10 with h | h
        · rw [Lib.nDigits_small h] at hv; omega
        · simpa using h
      | succ k ih =>
        intro v hv
        rcases Nat.lt_or_ge v 10 with h | h
        · rw [Lib.nDigits_small h] at hv; omega
        · rw [Lib.nDigits_big (by omega)] at hv
          have := ih (v / 10) (by omega)
          rw [Nat.pow_succ]
          omega
    have := key 9 u (by omega)
    omega
  · exact hc
theorem atoi_digits (u : Nat) : Lib.atoi (Lib.decDigits u) = some (u : Int) := by
  have h1 := decFrom_digits u
  have h2 := digits_ge u
  have h3 := decDigits_ne u
  generalize Lib.decDigits u = l at *
  cases l with
  | nil => exact absurd rfl h3
  | cons b r =>
    have hb := h2 b (by simp)
    simp only [Lib.atoi]
    rw [if_neg, if_neg]
    · simp [Lib.decNat, h1]
    · intro h; have : b = 43 := by simpa using h
      subst this; exact absurd hb.1 (by decide)
    · intro h; have : b = 45 := by simpa using h
      subst this; exact absurd hb.1 (by decide)
theorem decB_bytes (n : Nat) : (decB (n : Int)).data.toList = Lib.decDigits n := by
  unfold decB
  rw [Lib.itoa_nonneg]
theorem ba_toList (s : ByteArray) : s.toList = s.data.toList := by
  exact ByteArray.toList_eq s
theorem ba_eq {a b : ByteArray} (h : a.toList = b.toList) : a = b := by
  rw [ba_toList, ba_toList] at h
  exact ByteArray.ext (Array.toList_inj.mp h)
theorem uintB_dec (n : Nat) (h : n ≤ 1000000000) : uintB (decB (n : Int)) = ((n : Int), true) := by
  unfold uintB
  rw [decB_bytes, Lib.atoiAll_short _ (by have := digits_len n h; omega), atoi_digits]
  show (if inR 0 1000000000 (n : Int) = true then (if (decB (n : Int)).toList = (decB (n : Int)).toList then ((n : Int), true) else (0, false)) else (0, false)) = _
  rw [if_pos ((inR_iff _ _ _).mpr (by omega)), if_pos rfl]
theorem uintB_cases (s : ByteArray) : (∃ n : Nat, n ≤ 1000000000 ∧ s = decB (n : Int) ∧ uintB s = ((n : Int), true)) ∨ uintB s = (0, false) := by
  unfold uintB
  split
  · rename_i v hv
    by_cases c1 : inR 0 1000000000 v = true
    · rw [if_pos c1]
      by_cases c2 : (decB v).toList = s.toList
      · rw [if_pos c2]
        rw [inR_iff] at c1
        obtain ⟨n, rfl⟩ := Int.eq_ofNat_of_zero_le c1.1
        exact .inl ⟨n, by omega, (ba_eq c2).symm, rfl⟩
      · rw [if_neg c2]; exact .inr rfl
    · rw [if_neg c1]; exact .inr rfl
  · exact .inr rfl
def finU (s : ByteArray) (m : Nat) : Int × Bool := if m ≤ 1000000000 ∧ s = decB (m : Int) then ((m : Int), true) else (0, false)
theorem digitVal_bt (x : UInt8) : Lib.digitVal x = if (x.toNat : Int) < 48 then none else if (x.toNat : Int) > 57 then none else some (x.toNat - 48) := by
  unfold Lib.digitVal
  by_cases h1 : (x.toNat : Int) < 48
  · rw [if_pos h1, if_neg (by omega)]
  · rw [if_neg h1]
    by_cases h2 : (x.toNat : Int) > 57
    · rw [if_pos h2, if_neg (by omega)]
    · rw [if_neg h2, if_pos (by omega)]
theorem step_wrap (n x : Nat) (hn : n < 100000000000) (h1 : 48 ≤ x) (h2 : x ≤ 57) : wrap64 ((wrap64 ((wrap64 (10 * (n : Int))) + (wrap64 (x : Int)))) - 48) = ((n * 10 + (x - 48) : Nat) : Int) := by
  have e1 : wrap64 (10 * (n : Int)) = 10 * (n : Int) := by unfold wrap64; omega
  have e2 : wrap64 (x : Int) = (x : Int) := by unfold wrap64; omega
  rw [e1, e2]
  have e3 : wrap64 (10 * (n : Int) + (x : Int)) = 10 * (n : Int) + (x : Int) := by clear e1 e2; unfold wrap64; omega
  rw [e3]
  clear e1 e2 e3
  unfold wrap64; omega
theorem spec_uint_run (s : ByteArray) (hs : s.size ≤ 10) : ∀ (d k n i : Nat), s.size - i = d → i ≤ s.size → n < 10 ^ i → d < k →
    spec_ParseUint.l0 k s (n : Int) (i : Int) = some (match Lib.decFrom n (s.data.toList.drop i) with | none => (0, false) | some m => finU s m) := by
  have hl : s.data.toList.length = s.size := data_length s
  intro d
  induction d with
  | zero =>
    intro k n i hd hi hn hk
    have hin : i = s.size := by omega
    subst hin
    obtain ⟨k, rfl⟩ : ∃ m, k = m + 1 := ⟨k - 1, by omega⟩
    rw [List.drop_of_length_le (by omega)]
    unfold spec_ParseUint.l0
    rw [if_neg (by omega)]
    show _ = some (finU s n)
    unfold finU
    by_cases c : (n : Int) > 1000000000
    · rw [if_pos c, if_neg (by omega)]
    · rw [if_neg c]
      have hf : spec_FormatInt.f (n : Int) = some (decB (n : Int)) := by unfold spec_FormatInt.f; rw [if_pos (by omega)]
      rw [hf, Option.bind_some]
      by_cases e : (decB (n : Int)).toList = s.toList
      · rw [if_pos e, if_pos ⟨by omega, (ba_eq e).symm⟩]
      · rw [if_neg e, if_neg (fun h => e (by rw [← h.2]))]
  | succ d ih =>
    intro k n i hd hi hn hk
    have hlt : i < s.data.toList.length := by omega
    obtain ⟨k, rfl⟩ : ∃ m, k = m + 1 := ⟨k - 1, by omega⟩
    have hbt := byte_at_ s i (by omega)
    rw [List.drop_eq_getElem_cons hlt]
    unfold spec_ParseUint.l0
    rw [if_pos (by omega), if_pos (by omega), hbt]
    generalize s.data.toList[i] = x
    simp only [Lib.decFrom, digitVal_bt]
    by_cases h1 : (x.toNat : Int) < 48
    · rw [if_pos h1, if_pos h1]
    · rw [if_neg h1, if_neg h1]
      by_cases h2 : (x.toNat : Int) > 57
      · rw [if_pos h2, if_pos h2]
      · rw [if_neg h2, if_neg h2]
        have hp : 10 ^ i ≤ 10 ^ 10 := Nat.pow_le_pow_right (by omega) (by omega)
        have hb : n * 10 + (x.toNat - 48) < 10 ^ (i + 1) := by rw [Nat.pow_succ]; omega
        rw [step_wrap n x.toNat (by omega) (by omega) (by omega), w1_ i (by omega)]
        exact ih k _ (i + 1) (by omega) (by omega) hb (by omega)
theorem spec_ParseUint_f (s : ByteArray) (hs : s.size ≤ 600) (k : Nat) (hk : 11 < k) : spec_ParseUint.f k s = some (uintB s) := by
  unfold spec_ParseUint.f
  by_cases h : (s.size : Int) > 10
  · rw [if_pos h]
    rcases uintB_cases s with ⟨n, hn, he, _⟩ | h0
    · exfalso
      have h1 := digits_len n hn
      rw [← decB_bytes, ← he, data_length] at h1
      omega
    · rw [h0]
  · rw [if_neg h]
    have h1 := spec_uint_run s (by omega) s.size k 0 0 (by omega) (by omega) (by simp) (by omega)
    rw [List.drop_zero] at h1
    rw [show (0 : Int) = ((0 : Nat) : Int) from rfl, h1]
    congr 1
    rcases uintB_cases s with ⟨n, hn, he, hu⟩ | h0
    · rw [hu]
      have : s.data.toList = Lib.decDigits n := by rw [he, decB_bytes]
      rw [this, decFrom_digits]
      show finU s n = _
      unfold finU
      rw [if_pos ⟨hn, he⟩]
    · rw [h0]
      split
      · rfl
      · rename_i m hm
        unfold finU
        split
        · rename_i hc
          rw [hc.2, uintB_dec m hc.1] at h0
          simp at h0
        · rfl

end Go.Proofs.YthpmdppkladbfaaDoor.Q
