/- Bits: what the program's shifts, masks and xors of numbers of 64 bits are as sums and quotients; how long a number's bytes are by its bits. No conditions but bounds. -/
import Derived.Test.YthbllahcolnjeaaVM
import Derived.IntWalk
namespace Go.Proofs.Ythbllahcolnjeaa.VM
open Go.RowKit Go.Proofs.YthbllahcolnjeaaW.PrintWords Go.Proofs.YthbllahcolnjeaaW.PrintLast Go.Proofs.YthbllahcolnjeaaW.PrintMore
set_option linter.unusedSimpArgs false
set_option linter.unusedVariables false

theorem u64w (n : Int) : IntKind.u64.wrap n = n % 18446744073709551616 := by simp [IntKind.wrap, IntKind.bits, IntKind.signed]
theorem u64i {n : Int} (h0 : 0 ≤ n) (h1 : n < 18446744073709551616) : IntKind.u64.wrap n = n := by rw [u64w]; omega
theorem w64 {n : Int} (h0 : -9223372036854775808 ≤ n) (h1 : n < 9223372036854775808) : wrap64 n = n := by unfold wrap64; omega
theorem or128 : ∀ x : Fin 256, Go.bits .or .u8 (x.val : Int) 128 = (x.val % 128 + 128 : Nat) := by decide +kernel
theorem or128' {x : Int} (h0 : 0 ≤ x) (h1 : x < 256) : Go.bits .or .u8 x 128 = x % 128 + 128 := by
  obtain ⟨n, rfl⟩ := Int.eq_ofNat_of_zero_le h0
  have h := or128 ⟨n, by omega⟩
  simp only at h
  rw [h]; omega
theorem and127 {x : Int} (h0 : 0 ≤ x) (h1 : x < 256) : Go.bits .and .u8 x 127 = x % 128 := bits_mask .u8 8 (by decide) wraps_u8 7 (by decide) x h0 h1
theorem wraps_u64 (n : Int) (h₀ : 0 ≤ n) (h₁ : n < 2 ^ 64) : IntKind.u64.wrap n = n := by rw [u64w]; omega
theorem and1 {x : Int} (h0 : 0 ≤ x) (h1 : x < 18446744073709551616) : Go.bits .and .u64 x 1 = x % 2 := bits_mask .u64 64 (by decide) wraps_u64 1 (by decide) x h0 h1

/-- The next seven bits are put above those that are there. -/
theorem or_shl {a c i : Nat} (ha : a < 128 ^ i) (hi : i ≤ 9) (hb : c * 128 ^ i < 18446744073709551616) (hc : c < 128) :
    Go.bits .or .u64 (a : Int) (shl .u64 (IntKind.u64.wrap (c : Int)) (wrap64 (7 * (i : Int)))) = ((a + c * 128 ^ i : Nat) : Int) := by
  have hp : (128 : Nat) ^ i = 2 ^ (7 * i) := by rw [show (128 : Nat) = 2 ^ 7 from rfl, ← Nat.pow_mul]
  have hp9 : 128 ^ i ≤ 128 ^ 9 := Nat.pow_le_pow_right (by decide) hi
  rw [w64 (by omega) (by omega), u64i (by omega) (by omega)]
  unfold shl
  have hm : min (7 * (i : Int)).toNat (IntKind.u64.bits) = 7 * i := by
    have : IntKind.u64.bits = 64 := rfl
    rw [this]; omega
  rw [hm]
  have hy : (c : Int) * 2 ^ (7 * i) = ((c * 128 ^ i : Nat) : Int) := by rw [hp]; push_cast; rfl
  rw [hy, u64i (by omega) (by omega)]
  rw [(bits_nat .u64 64 (by decide) wraps_u64 a (c * 128 ^ i) (by simp only [Nat.reducePow] at hp9 ⊢; omega) (by omega)).2]
  congr 1
  rw [Nat.or_comm, hp, Nat.mul_comm c, ← Nat.two_pow_add_eq_or_of_lt (by rw [← hp]; exact ha)]
  omega

theorem xor0 (k : IntKind) (x : Int) : Go.bits .xor k x 0 = k.wrap ((BitVec.ofInt k.bits x).toNat : Int) := by
  simp [Go.bits]
theorem xorm (k : IntKind) (x y : Int) (hy : BitVec.ofInt k.bits y = BitVec.allOnes k.bits) : Go.bits .xor k x y = k.wrap ((2 ^ k.bits - 1 - (BitVec.ofInt k.bits x).toNat : Nat) : Int) := by
  simp only [Go.bits, hy, BitVec.xor_allOnes, BitVec.toNat_not]

def turn (a : Int) : Int := if 0 ≤ a then 2 * a else -2 * a - 1
def back (a : Int) : Int := if a % 2 = 0 then a / 2 else -(a / 2) - 1
theorem turn_bits {a : Int} (h0 : -9223372036854775808 ≤ a) (h1 : a < 9223372036854775808) :
    Go.bits .xor .u64 (IntKind.u64.wrap ((IntKind.u64.wrap a) * 2)) (IntKind.u64.wrap (a / 9223372036854775808)) = turn a := by
  unfold turn
  by_cases h : 0 ≤ a
  · rw [if_pos h, show a / 9223372036854775808 = 0 by omega, show IntKind.u64.wrap 0 = 0 from rfl, xor0, u64i h (by omega), u64i (n := a * 2) (by omega) (by omega)]
    rw [BitVec.toNat_ofInt, show IntKind.u64.bits = 64 from rfl, u64w]
    simp only [Nat.reducePow]
    omega
  · rw [if_neg h, show a / 9223372036854775808 = -1 by omega, show IntKind.u64.wrap (-1) = 18446744073709551615 from rfl, xorm _ _ _ (by decide), u64w, u64w a, u64w]
    rw [BitVec.toNat_ofInt, show IntKind.u64.bits = 64 from rfl]
    simp only [Nat.reducePow]
    omega
theorem turn_ref {a : Int} (h0 : -9223372036854775808 ≤ a) (h1 : a < 9223372036854775808) :
    (if a ≥ 0 then (some (IntKind.u64.wrap (2 * (IntKind.u64.wrap (a))))) else (some (IntKind.u64.wrap ((IntKind.u64.wrap (2 * (IntKind.u64.wrap (wrap64 (-(wrap64 (a + 1))))))) + 1)))) = some (turn a) := by
  unfold turn
  by_cases h : 0 ≤ a
  · rw [if_pos h, if_pos h, u64i h (by omega), u64i (by omega) (by omega)]
  · rw [if_neg h, if_neg h, w64 (n := a + 1) (by omega) (by omega), w64 (n := -(a + 1)) (by omega) (by omega), u64i (n := -(a + 1)) (by omega) (by omega), u64i (n := 2 * -(a + 1)) (by omega) (by omega), u64i (by omega) (by omega)]
    congr 1; omega
theorem back_bits {a : Int} (h0 : 0 ≤ a) (h1 : a < 18446744073709551616) : Go.bits .xor .i64 (wrap64 (a / 2)) (wrap64 (-(wrap64 (Go.bits .and .u64 a 1)))) = back a := by
  unfold back
  rw [and1 h0 h1, w64 (n := a / 2) (by omega) (by omega), w64 (n := a % 2) (by omega) (by omega), w64 (by omega) (by omega)]
  by_cases h : a % 2 = 0
  · rw [if_pos h, h, show -(0 : Int) = 0 from rfl, xor0, BitVec.toNat_ofInt, show IntKind.i64.bits = 64 from rfl, IntKind.wrap_i64]
    simp only [Nat.reducePow]
    omega
  · rw [if_neg h, show a % 2 = 1 by omega, xorm _ _ _ (by decide), BitVec.toNat_ofInt, show IntKind.i64.bits = 64 from rfl, IntKind.wrap_i64]
    simp only [Nat.reducePow]
    omega
theorem back_ref {a : Int} (h0 : 0 ≤ a) (h1 : a < 18446744073709551616) :
    (if (Int.tmod a 2) = 0 then (some (wrap64 (IntKind.u64.wrap (Int.tdiv a 2)))) else (some (wrap64 ((wrap64 (-(wrap64 (IntKind.u64.wrap (Int.tdiv a 2))))) - 1)))) = some (back a) := by
  unfold back
  rw [Int.tmod_eq_emod_of_nonneg h0, Int.tdiv_eq_ediv_of_nonneg h0, u64i (by omega) (by omega), w64 (n := a / 2) (by omega) (by omega), w64 (n := -(a / 2)) (by omega) (by omega), w64 (by omega) (by omega)]
  split <;> rfl
theorem turn_range {a : Int} (h0 : -9223372036854775808 ≤ a) (h1 : a < 9223372036854775808) : 0 ≤ turn a ∧ turn a < 18446744073709551616 := by unfold turn; split <;> omega
theorem back_range {a : Int} (h0 : 0 ≤ a) (h1 : a < 18446744073709551616) : -9223372036854775808 ≤ back a ∧ back a < 9223372036854775808 := by unfold back; split <;> omega
theorem back_turn {a : Int} : back (turn a) = a := by unfold back turn; split <;> split <;> omega
theorem turn_back {a : Int} (h0 : 0 ≤ a) : turn (back a) = a := by unfold back turn; split <;> split <;> omega

/-- L is how many bits n has. -/
def Blen (n L : Nat) : Prop := n < 2 ^ L ∧ (0 < L → 2 ^ (L - 1) ≤ n)
theorem Blen.up {n L s : Nat} (h : Blen (n / 2 ^ s) L) (hn : 2 ^ s ≤ n) : Blen n (L + s) := by
  obtain ⟨h1, h2⟩ := h
  have hp : 0 < 2 ^ s := Nat.two_pow_pos s
  have hq : 1 ≤ n / 2 ^ s := (Nat.le_div_iff_mul_le hp).2 (by omega)
  have hL : 0 < L := by
    rcases Nat.eq_zero_or_pos L with h | h
    · subst h; simp at h1; omega
    · exact h
  refine ⟨?_, fun _ => ?_⟩
  · rw [Nat.pow_add]; exact (Nat.div_lt_iff_lt_mul hp).1 h1
  · rw [show L + s - 1 = (L - 1) + s by omega, Nat.pow_add]; exact (Nat.le_div_iff_mul_le hp).1 (h2 hL)
theorem Blen.enc {n L : Nat} (h : Blen n L) : (enc n).length = max 1 ((L + 6) / 7) := by
  obtain ⟨h1, h2⟩ := h
  rcases Nat.eq_zero_or_pos L with h | h
  · subst h
    have : n = 0 := by simpa using h1
    subst this; rw [enc_lt (by decide)]; simp
  · have h2 := h2 h
    have e : ∀ j, (128 : Nat) ^ j = 2 ^ (7 * j) := fun j => by rw [show (128 : Nat) = 2 ^ 7 from rfl, ← Nat.pow_mul]
    have hq : 1 ≤ (L + 6) / 7 := by omega
    have a1 := enc_len ((L + 6) / 7 - 1) n (by rw [e]; exact Nat.lt_of_lt_of_le h1 (Nat.pow_le_pow_right (by decide) (by omega)))
    have a2 := enc_len_lower ((L + 6) / 7 - 1) n (by rw [e]; exact Nat.le_trans (Nat.pow_le_pow_right (by decide) (by omega)) h2)
    omega
def tab : List UInt8 := [0, 1, 2, 2, 3, 3, 3, 3] ++ List.replicate 8 4 ++ List.replicate 16 5 ++ List.replicate 32 6 ++ List.replicate 64 7 ++ List.replicate 128 8
theorem tab_ok : ∀ x : Fin 256, x.val < 2 ^ (tab.getD x.val 0).toNat ∧ (0 < (tab.getD x.val 0).toNat → 2 ^ ((tab.getD x.val 0).toNat - 1) ≤ x.val) := by decide +kernel
theorem tab_blen {n : Nat} (h : n < 256) : Blen n (tab.getD n 0).toNat := tab_ok ⟨n, h⟩
theorem tab_small {n : Nat} (h : n < 256) : (tab.getD n 0).toNat ≤ 8 := by
  have := tab_blen h
  rcases Nat.lt_or_ge 8 (tab.getD n 0).toNat with h8 | h8
  · have h2 := this.2 (by omega)
    have : 2 ^ 8 ≤ 2 ^ ((tab.getD n 0).toNat - 1) := Nat.pow_le_pow_right (by decide) (by omega)
    omega
  · exact h8

/-- A byte of a text, by the list of its bytes. -/
theorem size_len (s : ByteArray) : s.size = s.data.toList.length := Array.length_toList.symm
theorem getD_in {l : List UInt8} {i : Nat} (h : i < l.length) : l.getD i 0 = l[i] := by simp [List.getD, h]
theorem getD_out {l : List UInt8} {i : Nat} (h : l.length ≤ i) : l.getD i 0 = 0 := by simp [List.getD, h]
theorem bt_getD (s : ByteArray) (i : Int) : bt s i = ((s.data.toList.getD i.toNat 0).toNat : Int) := by
  unfold bt
  by_cases h : i.toNat < s.size
  · rw [dif_pos h, getD_in (by rw [← size_len]; exact h)]; rfl
  · rw [dif_neg h, getD_out (by rw [← size_len]; omega)]; rfl
theorem drop_at {l : List UInt8} {i : Nat} (h : i < l.length) : l.drop i = l.getD i 0 :: l.drop (i + 1) := by
  rw [List.drop_eq_getElem_cons h, getD_in h]
theorem wf_u64 {a : Int} (h : (Lit.int .u64 a).wf = true) : 0 ≤ a ∧ a < 18446744073709551616 := by
  simp [Lit.wf, IntKind.min, IntKind.max, IntKind.signed, IntKind.bits] at h; omega
theorem wf_i64 {a : Int} (h : (Lit.int .i64 a).wf = true) : -9223372036854775808 ≤ a ∧ a < 9223372036854775808 := by
  simp [Lit.wf, IntKind.min, IntKind.max, IntKind.signed, IntKind.bits] at h; omega
/-- What taking answers from place i on, with what was taken ahead. -/
def fin (i acc : Nat) (t : Nat × Nat × Nat) : Int × Int × Int := if t.2.2 = 0 then (((acc + t.1 * 128 ^ i : Nat) : Int), ((i + t.2.1 : Nat) : Int), 0) else (0, 0, (t.2.2 : Int))
def tkI (l : List UInt8) : Int × Int × Int := (((tk 0 l).1 : Int), ((tk 0 l).2.1 : Int), ((tk 0 l).2.2 : Int))
theorem fin0 (l : List UInt8) : fin 0 0 (tk 0 l) = tkI l := by
  unfold fin tkI
  by_cases h : (tk 0 l).2.2 = 0
  · rw [if_pos h, h]; simp
  · rw [if_neg h]
    obtain ⟨h1, h2⟩ := (tk_err l 0).2 h
    rw [h1, h2]; rfl
theorem tkI_err {l : List UInt8} (h : (tkI l).2.2 ≠ 0) : (tkI l).1 = 0 ∧ (tkI l).2.1 = 0 := by
  have := (tk_err l 0).2 (by intro h0; apply h; unfold tkI; simp [h0])
  unfold tkI; simp only []; omega
theorem tkI_ok {l : List UInt8} (h : (tkI l).2.2 = 0) : ∃ n k : Nat, tkI l = ((n : Int), (k : Int), 0) ∧ l.take k = enc n ∧ k = (enc n).length ∧ k ≤ l.length ∧ 1 ≤ k ∧ k ≤ 10 ∧ n < 18446744073709551616 := by
  have h0 : (tk 0 l).2.2 = 0 := by unfold tkI at h; simpa using h
  exact ⟨(tk 0 l).1, (tk 0 l).2.1, by unfold tkI; rw [h0]; rfl, tk_back0 (Prod.ext rfl (Prod.ext rfl h0))⟩
theorem tkI_range (l : List UInt8) : 0 ≤ (tkI l).1 ∧ (tkI l).1 < 18446744073709551616 ∧ 0 ≤ (tkI l).2.1 ∧ (tkI l).2.1 ≤ l.length ∧ (tkI l).2.1 ≤ 10 ∧ 0 ≤ (tkI l).2.2 ∧ (tkI l).2.2 ≤ 2 := by
  have he := (tk_err l 0).1
  by_cases h : (tkI l).2.2 = 0
  · obtain ⟨n, k, e, _, _, h3, h4, h5, h6⟩ := tkI_ok h
    rw [e]; simp only []; omega
  · obtain ⟨h1, h2⟩ := tkI_err h
    rw [h1, h2]; unfold tkI; simp only []; omega
theorem tkI_enc {n : Nat} (h : n < 18446744073709551616) (r : List UInt8) : tkI (enc n ++ r) = ((n : Int), ((enc n).length : Int), 0) := by unfold tkI; rw [tk_enc0 h]; rfl
theorem tkI_short {n j : Nat} (h : n < 18446744073709551616) (hj : j < (enc n).length) : tkI ((enc n).take j) = (0, 0, 2) := by unfold tkI; rw [tk_short0 h hj]; rfl
/-- One step of taking. -/
theorem fin_step {l : List UInt8} {i acc : Nat} (h : i < l.length) :
    fin i acc (tk i (l.drop i)) = if (i = 9 ∧ (l.getD i 0).toNat > 1) ∨ ((l.getD i 0).toNat = 0 ∧ i > 0) then (0, 0, 1)
      else if (l.getD i 0).toNat < 128 then (((acc + (l.getD i 0).toNat * 128 ^ i : Nat) : Int), ((i + 1 : Nat) : Int), 0)
      else fin (i + 1) (acc + ((l.getD i 0).toNat - 128) * 128 ^ i) (tk (i + 1) (l.drop (i + 1))) := by
  rw [drop_at h]
  simp only [tk]
  split
  · rfl
  · split
    · rfl
    · generalize tk (i + 1) (List.drop (i + 1) l) = t
      obtain ⟨x, y, e⟩ := t
      unfold fin
      by_cases h3 : e = 0
      · subst h3
        simp only [if_true, Prod.mk.injEq, and_true]
        constructor
        · rw [Nat.pow_succ, Nat.add_mul, ← Nat.add_assoc, Nat.mul_comm 128, Nat.mul_assoc, Nat.mul_comm 128 (128 ^ i)]
        · omega
      · simp only [if_neg h3]
end Go.Proofs.Ythbllahcolnjeaa.VM
