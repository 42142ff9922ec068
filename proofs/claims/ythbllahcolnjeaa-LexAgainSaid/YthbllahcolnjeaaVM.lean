/- The plain law of numbers as bytes (seven bits a byte): what is put, what is taken, and that one undoes the other: no program in sight. No conditions. -/
import Derived.RowKit
import Derived.Laws.BytesArg
import Derived.Laws.BitsLemmas
import Derived.Laws.Strings
import Derived.Lib.Strings
import Derived.Test.YthbllahcolnjeaaWMore
import Derived.Test.YthbllahcolnjeaaWWords
namespace Go.Proofs.Ythbllahcolnjeaa.VM
set_option linter.unusedSimpArgs false
set_option linter.unusedVariables false
open Go.RowKit Go.Proofs.YthbllahcolnjeaaW.PrintWords Go.Proofs.YthbllahcolnjeaaW.PrintLast Go.Proofs.YthbllahcolnjeaaW.PrintMore

def enc (n : Nat) : List UInt8 := if n < 128 then [UInt8.ofNat n] else UInt8.ofNat (n % 128 + 128) :: enc (n / 128)
  termination_by n
  decreasing_by omega

def tk : Nat → List UInt8 → Nat × Nat × Nat
  | _, [] => (0, 0, 2)
  | i, c :: r =>
    if (i = 9 ∧ c.toNat > 1) ∨ (c.toNat = 0 ∧ i > 0) then (0, 0, 1)
    else if c.toNat < 128 then (c.toNat, 1, 0)
    else if (tk (i + 1) r).2.2 = 0 then (c.toNat - 128 + 128 * (tk (i + 1) r).1, (tk (i + 1) r).2.1 + 1, 0) else (0, 0, (tk (i + 1) r).2.2)

def ba (l : List UInt8) : ByteArray := ⟨l.toArray⟩
theorem ba_data (l : List UInt8) : (ba l).data.toList = l := rfl
theorem ba_size (l : List UInt8) : (ba l).size = l.length := by simp [ba, ByteArray.size]
theorem ba_toList (l : List UInt8) : (ba l).toList = l := by rw [ByteArray.toList_eq]; rfl
theorem ba_eta (s : ByteArray) : ba s.data.toList = s := by cases s; simp [ba]
theorem ba_ext {s t : ByteArray} (h : s.data.toList = t.data.toList) : s = t := by rw [← ba_eta s, ← ba_eta t, h]
theorem ba_append (l r : List UInt8) : ba l ++ ba r = ba (l ++ r) := ba_ext (by rw [ByteArray.toList_data_append, ba_data, ba_data, ba_data])
theorem ba_appendR (l : List UInt8) (s : ByteArray) : ba l ++ s = ba (l ++ s.data.toList) := ba_ext (by rw [ByteArray.toList_data_append, ba_data, ba_data])

theorem enc_lt {n : Nat} (h : n < 128) : enc n = [UInt8.ofNat n] := by rw [enc, if_pos h]
theorem enc_ge {n : Nat} (h : ¬ n < 128) : enc n = UInt8.ofNat (n % 128 + 128) :: enc (n / 128) := by rw [enc, if_neg h]
theorem enc_pos (n : Nat) : 1 ≤ (enc n).length := by
  by_cases h : n < 128
  · rw [enc_lt h]; simp
  · rw [enc_ge h]; simp
theorem enc_len (k : Nat) : ∀ n, n < 128 ^ (k + 1) → (enc n).length ≤ k + 1 := by
  induction k with
  | zero => intro n h; rw [enc_lt (by simpa using h)]; simp
  | succ k ih =>
    intro n h
    by_cases hn : n < 128
    · rw [enc_lt hn]; simp
    · rw [enc_ge hn]
      have := ih (n / 128) (by rw [Nat.pow_succ] at h; exact Nat.div_lt_of_lt_mul (by rw [Nat.mul_comm]; exact h))
      simp only [List.length_cons]; omega
theorem enc_len_lower (k : Nat) : ∀ n, 128 ^ k ≤ n → k + 1 ≤ (enc n).length := by
  induction k with
  | zero => intro n _; exact enc_pos n
  | succ k ih =>
    intro n h
    have hp : 0 < 128 ^ k := Nat.pow_pos (by decide)
    have hn : ¬ n < 128 := by rw [Nat.pow_succ] at h; omega
    rw [enc_ge hn]
    have := ih (n / 128) (by rw [Nat.pow_succ] at h; exact (Nat.le_div_iff_mul_le (by decide)).2 h)
    simp only [List.length_cons]; omega
theorem enc_len10 {n : Nat} (h : n < 18446744073709551616) : (enc n).length ≤ 10 := enc_len 9 n (by simp only [Nat.reducePow, Nat.reduceMul, Nat.reduceAdd]; omega)
theorem enc_mono {n m : Nat} (h : n ≤ m) : (enc n).length ≤ (enc m).length := by
  induction n using Nat.strongRecOn generalizing m with
  | _ n ih =>
    by_cases hn : n < 128
    · rw [enc_lt hn]; exact enc_pos m
    · rw [enc_ge hn, enc_ge (show ¬ m < 128 by omega)]
      have := ih (n / 128) (by omega) (show n / 128 ≤ m / 128 from Nat.div_le_div_right h)
      simp only [List.length_cons]; omega

theorem u8n {n : Nat} (h : n < 256) : (UInt8.ofNat n).toNat = n := by simp; omega

/-- What is put is taken, whatever stands behind it. -/
theorem tk_enc (d : Nat) : ∀ (i n : Nat) (r : List UInt8), i + d = 9 → n < 2 * 128 ^ d → (i = 0 ∨ 0 < n) → tk i (enc n ++ r) = (n, (enc n).length, 0) := by
  induction d with
  | zero =>
    intro i n r hi hn h0
    have hn' : n < 2 := by simpa using hn
    rw [enc_lt (by omega)]
    simp only [List.cons_append, List.nil_append, tk, u8n (show n < 256 by omega)]
    rw [if_neg (by omega), if_pos (by omega)]; simp
  | succ d ih =>
    intro i n r hi hn h0
    by_cases hlt : n < 128
    · rw [enc_lt hlt]
      simp only [List.cons_append, List.nil_append, tk, u8n (show n < 256 by omega)]
      rw [if_neg (by omega), if_pos hlt]; simp
    · rw [enc_ge hlt]
      have hrec := ih (i + 1) (n / 128) r (by omega) (by rw [Nat.pow_succ] at hn; exact Nat.div_lt_of_lt_mul (by omega)) (by omega)
      simp only [List.cons_append, tk, u8n (show n % 128 + 128 < 256 by omega), hrec]
      rw [if_neg (by omega), if_neg (by omega), if_pos trivial]
      simp only [List.length_cons, Prod.mk.injEq, and_true, true_and]
      omega
theorem tk_enc0 {n : Nat} (h : n < 18446744073709551616) (r : List UInt8) : tk 0 (enc n ++ r) = (n, (enc n).length, 0) := tk_enc 9 0 n r rfl (by simp only [Nat.reducePow, Nat.reduceMul, Nat.reduceAdd]; omega) (.inl rfl)

/-- No beginning of it is a number. -/
theorem tk_short (d : Nat) : ∀ (i n j : Nat), i + d = 9 → n < 2 * 128 ^ d → (i = 0 ∨ 0 < n) → j < (enc n).length → tk i ((enc n).take j) = (0, 0, 2) := by
  induction d with
  | zero =>
    intro i n j hi hn h0 hj
    have hn' : n < 2 := by simpa using hn
    rw [enc_lt (by omega)] at hj ⊢
    simp at hj; subst hj; simp [tk]
  | succ d ih =>
    intro i n j hi hn h0 hj
    by_cases hlt : n < 128
    · rw [enc_lt hlt] at hj ⊢
      simp at hj; subst hj; simp [tk]
    · rw [enc_ge hlt] at hj ⊢
      cases j with
      | zero => simp [tk]
      | succ j =>
        simp only [List.length_cons] at hj
        have hrec := ih (i + 1) (n / 128) j (by omega) (by rw [Nat.pow_succ] at hn; exact Nat.div_lt_of_lt_mul (by omega)) (by omega) (by omega)
        simp only [List.take_succ_cons, tk, u8n (show n % 128 + 128 < 256 by omega), hrec]
        rw [if_neg (by omega), if_neg (by omega), if_neg (by simp)]
theorem tk_short0 {n j : Nat} (h : n < 18446744073709551616) (hj : j < (enc n).length) : tk 0 ((enc n).take j) = (0, 0, 2) := tk_short 9 0 n j rfl (by simp only [Nat.reducePow, Nat.reduceMul, Nat.reduceAdd]; omega) (.inl rfl) hj

/-- Of what is taken, the bytes are those that are put. -/
theorem tk_back (l : List UInt8) : ∀ (i n k : Nat), i ≤ 9 → tk i l = (n, k, 0) → l.take k = enc n ∧ k = (enc n).length ∧ k ≤ l.length ∧ (0 < i → 0 < n) ∧ n < 2 * 128 ^ (9 - i) := by
  induction l with
  | nil => intro i n k _ h; simp [tk] at h
  | cons c r ih =>
    intro i n k hi h
    have hc := c.toNat_lt
    simp only [tk] at h
    by_cases h1 : (i = 9 ∧ c.toNat > 1) ∨ (c.toNat = 0 ∧ i > 0)
    · rw [if_pos h1] at h; simp at h
    · rw [if_neg h1] at h
      by_cases h2 : c.toNat < 128
      · rw [if_pos h2] at h
        simp only [Prod.mk.injEq, and_true] at h
        obtain ⟨rfl, rfl⟩ := h
        rw [enc_lt h2]
        refine ⟨by simp, by simp, by simp, by omega, ?_⟩
        by_cases h9 : i = 9
        · subst h9; simp; omega
        · obtain ⟨e, he⟩ : ∃ e, 9 - i = e + 1 := ⟨8 - i, by omega⟩
          have hp : 0 < 128 ^ e := Nat.pow_pos (by decide)
          rw [he, Nat.pow_succ]; omega
      · rw [if_neg h2] at h
        have h9 : i ≠ 9 := by omega
        by_cases h3 : (tk (i + 1) r).2.2 = 0
        · rw [if_pos h3] at h
          simp only [Prod.mk.injEq, and_true] at h
          obtain ⟨rfl, rfl⟩ := h
          obtain ⟨e1, e2, e3, e4, e5⟩ := ih (i + 1) (tk (i + 1) r).1 (tk (i + 1) r).2.1 (by omega) (by rw [← h3])
          have e4 := e4 (by omega)
          have hd : (c.toNat - 128 + 128 * (tk (i + 1) r).1) / 128 = (tk (i + 1) r).1 := by omega
          have hm : (c.toNat - 128 + 128 * (tk (i + 1) r).1) % 128 + 128 = c.toNat := by omega
          rw [enc_ge (show ¬ c.toNat - 128 + 128 * (tk (i + 1) r).1 < 128 by omega), hd, hm, List.take_succ_cons, e1]
          refine ⟨by simp, by simp only [List.length_cons]; omega, by simp only [List.length_cons]; omega, by omega, ?_⟩
          obtain ⟨e, he⟩ : ∃ e, 9 - i = e + 1 := ⟨8 - i, by omega⟩
          have he' : 9 - (i + 1) = e := by omega
          rw [he'] at e5
          rw [he, Nat.pow_succ]; omega
        · rw [if_neg h3] at h
          simp only [Prod.mk.injEq] at h
          exact absurd h.2.2 h3
theorem tk_back0 {l : List UInt8} {n k : Nat} (h : tk 0 l = (n, k, 0)) : l.take k = enc n ∧ k = (enc n).length ∧ k ≤ l.length ∧ 1 ≤ k ∧ k ≤ 10 ∧ n < 18446744073709551616 := by
  obtain ⟨h1, h2, h3, _, h5⟩ := tk_back l 0 n k (by omega) h
  have h6 : n < 18446744073709551616 := by simp only [Nat.reducePow, Nat.reduceMul, Nat.reduceAdd, Nat.sub_zero] at h5; omega
  have := enc_pos n
  have := enc_len10 h6
  exact ⟨h1, h2, h3, by omega, by omega, h6⟩
theorem tk_err (l : List UInt8) : ∀ i, (tk i l).2.2 ≤ 2 ∧ ((tk i l).2.2 ≠ 0 → (tk i l).1 = 0 ∧ (tk i l).2.1 = 0) := by
  induction l with
  | nil => intro i; simp [tk]
  | cons c r ih =>
    intro i
    obtain ⟨h1, h2⟩ := ih (i + 1)
    simp only [tk]
    split
    · simp
    · split
      · simp
      · split
        · simp
        · simp; exact h1
theorem enc_inj {n m : Nat} (hn : n < 18446744073709551616) (hm : m < 18446744073709551616) (h : enc n = enc m) : n = m := by
  have a := tk_enc0 hn []
  have b := tk_enc0 hm []
  rw [h, b] at a
  simp only [Prod.mk.injEq] at a
  exact a.1.symm
end Go.Proofs.Ythbllahcolnjeaa.VM
