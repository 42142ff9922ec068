/- For all numbers: varint.Put, Len, Turn, Back and PutInt answer as the document's functions do. No conditions. -/
import Derived.Test.YtpdlbdmcoghohaaPVarintPutsx1
import Derived.Test.YtpdlbdmcoghohaaVB
namespace Go.Proofs.Ytpdlbdmcoghohaa.Pure
open Go.RowKit Go.Proofs.Ytpdlbdmcoghohaa.PVarintPuts Go.Proofs.YtpdlbdmcoghohaaW.PrintWords Go.Proofs.YtpdlbdmcoghohaaW.PrintLast Go.Proofs.YtpdlbdmcoghohaaW.PrintMore Go.Proofs.Ytpdlbdmcoghohaa.VM
set_option linter.unusedSimpArgs false
set_option linter.unusedVariables false

/-- varint.Put, as a list of bytes. -/
theorem put_l0 (k : Nat) : ∀ (n : Nat) (acc : List Int), n < 128 ^ (k + 1) → acc.length + k < 1000 → varint_Put.l0 (k + 1) (n : Int) acc = some (ba ((acc.map fun n => UInt8.ofNat n.toNat) ++ enc n)) := by
  induction k with
  | zero =>
    intro n acc hn hl
    simp only [varint_Put.l0]
    rw [if_pos (by omega), if_pos (by omega), enc_lt (by omega)]
    simp only [strOfNums, ba, List.map_append, List.map_cons, List.map_nil]
    rw [show ((n : Int) % 256).toNat = n by omega]
  | succ k ih =>
    intro n acc hn hl
    rw [varint_Put.l0]
    by_cases h : n < 128
    · rw [if_pos (by omega), if_pos (by omega), enc_lt h]
      simp only [strOfNums, ba, List.map_append, List.map_cons, List.map_nil]
      rw [show ((n : Int) % 256).toNat = n by omega]
    · rw [if_neg (by omega), if_pos (by omega), or128' (by omega) (by omega), show (n : Int) / 128 = ((n / 128 : Nat) : Int) by omega, ih (n / 128) _ (by rw [Nat.pow_succ] at hn; exact Nat.div_lt_of_lt_mul (by rw [Nat.mul_comm]; exact hn)) (by simp; omega), enc_ge h]
      simp only [List.map_append, List.map_cons, List.map_nil, List.append_assoc, List.cons_append, List.nil_append]
      rw [show ((n : Int) % 256 % 128 + 128).toNat = n % 128 + 128 by omega]
theorem put_f {n : Int} (h0 : 0 ≤ n) (h1 : n < 18446744073709551616) {k : Nat} (hk : 10 ≤ k) : varint_Put.f k n = some (ba (enc n.toNat)) := by
  obtain ⟨m, rfl⟩ := Int.eq_ofNat_of_zero_le h0
  refine at_rounds (varint_Put.mono _) hk ?_
  rw [varint_Put.f, put_l0 9 m [] (by simp only [Nat.reducePow, Nat.reduceAdd]; omega) (by simp)]
  simp
/-- The document's Put. -/
theorem byte_f (n : Int) : concourseref01_Byte.f n = some (ba [UInt8.ofNat (n % 256).toNat]) := rfl
theorem refput_f' (k : Nat) : ∀ (n : Nat), n < 128 ^ (k + 1) → n < 18446744073709551616 → k < 1000 → concourseref01_Put.f (k + 1) (n : Int) = some (ba (enc n)) := by
  induction k with
  | zero =>
    intro n hn h64 hk
    rw [concourseref01_Put.f, if_pos (by omega), byte_f, w64 (by omega) (by omega), enc_lt (by omega)]
    simp only [Option.bind_some]
    rw [show ((n : Int) % 256).toNat = n by omega]
  | succ k ih =>
    intro n hn h64 hk
    rw [concourseref01_Put.f]
    by_cases h : n < 128
    · rw [if_pos (by omega), byte_f, w64 (by omega) (by omega), enc_lt (by omega)]
      simp only [Option.bind_some]
      rw [show ((n : Int) % 256).toNat = n by omega]
    · have hd : n / 128 < 128 ^ (k + 1) := by rw [Nat.pow_succ] at hn; exact Nat.div_lt_of_lt_mul (by rw [Nat.mul_comm]; exact hn)
      have hl := enc_len k (n / 128) hd
      rw [if_neg (by omega), Int.tmod_eq_emod_of_nonneg (by omega), Int.tdiv_eq_ediv_of_nonneg (by omega), w64 (n := (n : Int) % 128) (by omega) (by omega), w64 (by omega) (by omega), byte_f, u64i (by omega) (by omega), show (n : Int) / 128 = ((n / 128 : Nat) : Int) by omega, ih (n / 128) hd (by omega) (by omega)]
      simp only [Option.bind_some]
      rw [if_pos (by rw [ba_size, ba_size]; simp; omega), ba_append, enc_ge h, show (((n : Int) % 128 + 128) % 256).toNat = n % 128 + 128 by omega]
      rfl
theorem refput_f {n : Int} (h0 : 0 ≤ n) (h1 : n < 18446744073709551616) {k : Nat} (hk : 10 ≤ k) : concourseref01_Put.f k n = some (ba (enc n.toNat)) := by
  obtain ⟨m, rfl⟩ := Int.eq_ofNat_of_zero_le h0
  refine at_rounds (g := fun j => concourseref01_Put.f j (m : Int)) (fun j => concourseref01_Put.mono _ _) hk ?_
  exact refput_f' 9 m (by simp only [Nat.reducePow, Nat.reduceAdd]; omega) (by omega) (by omega)
theorem turn_f {a : Int} (h0 : -9223372036854775808 ≤ a) (h1 : a < 9223372036854775808) : varint_Turn.f a = some (turn a) := by
  unfold varint_Turn.f; rw [turn_bits h0 h1]
theorem refturn_f {a : Int} (h0 : -9223372036854775808 ≤ a) (h1 : a < 9223372036854775808) : concourseref01_Turn.f a = some (turn a) := turn_ref h0 h1
theorem back_f {a : Int} (h0 : 0 ≤ a) (h1 : a < 18446744073709551616) : varint_Back.f a = some (back a) := by
  unfold varint_Back.f; rw [back_bits h0 h1]
theorem refback_f {a : Int} (h0 : 0 ≤ a) (h1 : a < 18446744073709551616) : concourseref01_Back.f a = some (back a) := back_ref h0 h1
theorem enc300 : enc 300 = [172, 2] := by rw [enc_ge (by decide), enc_lt (by decide)]; rfl
theorem awake_f {k : Nat} (hk : 10 ≤ k) : concourselaw01_awake.f k = some true := by
  unfold concourselaw01_awake.f
  rw [put_f (by decide) (by decide) hk, turn_f (by decide) (by decide)]
  simp only [Option.bind_some]
  rw [ba_toList, show ((300 : Int).toNat) = 300 from rfl, enc300, if_pos rfl]; rfl
theorem putint_f {a : Int} (h0 : -9223372036854775808 ≤ a) (h1 : a < 9223372036854775808) {k : Nat} (hk : 10 ≤ k) : varint_PutInt.f k a = some (ba (enc (turn a).toNat)) := by
  have ht := turn_range h0 h1
  unfold varint_PutInt.f
  rw [turn_f h0 h1]; simp only [Option.bind_some]
  rw [put_f ht.1 ht.2 hk]; rfl
theorem tab_bt (i : Int) : bt (ba tab) i = ((tab.getD i.toNat 0).toNat : Int) := by rw [bt_getD, ba_data]
set_option maxRecDepth 100000 in
theorem len64_f {n : Nat} (h : n < 18446744073709551616) {k : Nat} (hk : 2 ≤ k) : ∃ L : Nat, L ≤ 64 ∧ Blen n L ∧ bits_Len64.f k (n : Int) = some (L : Int) := by
  obtain ⟨k, rfl⟩ : ∃ j, k = j + 1 := ⟨k - 1, by omega⟩
  have hj : ∀ (m c : Nat), m < 4294967296 → c ≤ 32 → ∃ L : Nat, L ≤ 32 ∧ Blen m L ∧ bits_Len64.j0 (k + 1) (m : Int) (c : Int) = some ((L + c : Nat) : Int) := by
    intro m c hm hc
    have tb : ∀ i : Int, bt (⟨#[0, 1, 2, 2, 3, 3, 3, 3, 4, 4, 4, 4, 4, 4, 4, 4, 5, 5, 5, 5, 5, 5, 5, 5, 5, 5, 5, 5, 5, 5, 5, 5, 6, 6, 6, 6, 6, 6, 6, 6, 6, 6, 6, 6, 6, 6, 6, 6, 6, 6, 6, 6, 6, 6, 6, 6, 6, 6, 6, 6, 6, 6, 6, 6, 7, 7, 7, 7, 7, 7, 7, 7, 7, 7, 7, 7, 7, 7, 7, 7, 7, 7, 7, 7, 7, 7, 7, 7, 7, 7, 7, 7, 7, 7, 7, 7, 7, 7, 7, 7, 7, 7, 7, 7, 7, 7, 7, 7, 7, 7, 7, 7, 7, 7, 7, 7, 7, 7, 7, 7, 7, 7, 7, 7, 7, 7, 7, 7, 8, 8, 8, 8, 8, 8, 8, 8, 8, 8, 8, 8, 8, 8, 8, 8, 8, 8, 8, 8, 8, 8, 8, 8, 8, 8, 8, 8, 8, 8, 8, 8, 8, 8, 8, 8, 8, 8, 8, 8, 8, 8, 8, 8, 8, 8, 8, 8, 8, 8, 8, 8, 8, 8, 8, 8, 8, 8, 8, 8, 8, 8, 8, 8, 8, 8, 8, 8, 8, 8, 8, 8, 8, 8, 8, 8, 8, 8, 8, 8, 8, 8, 8, 8, 8, 8, 8, 8, 8, 8, 8, 8, 8, 8, 8, 8, 8, 8, 8, 8, 8, 8, 8, 8, 8, 8, 8, 8, 8, 8, 8, 8, 8, 8, 8, 8, 8, 8, 8, 8, 8, 8, 8, 8, 8, 8, 8, 8]⟩ : ByteArray) i = ((tab.getD i.toNat 0).toNat : Int) := fun i => tab_bt i
    simp only [bits_Len64.j0, tb]
    by_cases h1 : m < 65536
    · rw [if_neg (by omega)]
      by_cases h2 : m < 256
      · have hs := tab_small h2
        refine ⟨_, ?_, tab_blen h2, ?_⟩
        · omega
        · rw [if_neg (by omega), if_pos (by omega), if_pos (by omega), show ((m : Int) % 256).toNat = m by omega, w64 (n := ((tab.getD m 0).toNat : Int)) (by omega) (by omega), w64 (by omega) (by omega)]
          congr 1; omega
      · have hd : m / 2 ^ 8 < 256 := by simp only [Nat.reducePow]; omega
        have hs := tab_small hd
        refine ⟨_, ?_, (tab_blen hd).up (by simp only [Nat.reducePow]; omega), ?_⟩
        · omega
        · simp only [Nat.reducePow] at hs ⊢
          rw [if_pos (by omega), if_pos (by omega), if_pos (by omega), show ((m : Int) / 256 % 256).toNat = m / 256 by omega, w64 (n := (c : Int) + 8) (by omega) (by omega), w64 (n := ((tab.getD (m / 256) 0).toNat : Int)) (by omega) (by omega), w64 (by omega) (by omega)]
          congr 1; omega
    · rw [if_pos (by omega)]
      by_cases h2 : m / 65536 < 256
      · have hd : m / 2 ^ 16 < 256 := by simp only [Nat.reducePow]; omega
        have hs := tab_small hd
        refine ⟨_, ?_, (tab_blen hd).up (by simp only [Nat.reducePow]; omega), ?_⟩
        · omega
        · simp only [Nat.reducePow] at hs ⊢
          rw [if_neg (by omega), if_pos (by omega), if_pos (by omega), show ((m : Int) / 65536 % 256).toNat = m / 65536 by omega, w64 (n := (c : Int) + 16) (by omega) (by omega), w64 (n := ((tab.getD (m / 65536) 0).toNat : Int)) (by omega) (by omega), w64 (by omega) (by omega)]
          congr 1; omega
      · have hd : m / 2 ^ 16 / 2 ^ 8 < 256 := by simp only [Nat.reducePow]; omega
        have hs := tab_small hd
        refine ⟨_, ?_, ((tab_blen hd).up (by simp only [Nat.reducePow]; omega)).up (by simp only [Nat.reducePow]; omega), ?_⟩
        · omega
        · simp only [Nat.reducePow] at hs ⊢
          rw [if_pos (by omega), if_pos (by omega), if_pos (by omega), show ((m : Int) / 65536 / 256 % 256).toNat = m / 65536 / 256 by omega, w64 (n := (c : Int) + 16) (by omega) (by omega), w64 (n := (c : Int) + 16 + 8) (by omega) (by omega), w64 (n := ((tab.getD (m / 65536 / 256) 0).toNat : Int)) (by omega) (by omega), w64 (by omega) (by omega)]
          congr 1; omega
  unfold bits_Len64.f
  by_cases h1 : n < 4294967296
  · obtain ⟨L, h2, h3, h4⟩ := hj n 0 h1 (by omega)
    refine ⟨L, by omega, h3, ?_⟩
    rw [if_neg (by omega)]; exact h4
  · obtain ⟨L, h2, h3, h4⟩ := hj (n / 4294967296) 32 (by omega) (by omega)
    refine ⟨L + 32, by omega, Blen.up (s := 32) (by simp only [Nat.reducePow]; exact h3) (by simp only [Nat.reducePow]; omega), ?_⟩
    rw [if_pos (by omega), show (n : Int) / 4294967296 = ((n / 4294967296 : Nat) : Int) by omega]; exact h4
theorem len_f {n : Int} (h0 : 0 ≤ n) (h1 : n < 18446744073709551616) {k : Nat} (hk : 2 ≤ k) : varint_Len.f k n = some ((enc n.toNat).length : Int) := by
  obtain ⟨m, rfl⟩ := Int.eq_ofNat_of_zero_le h0
  obtain ⟨L, hL, hb, hf⟩ := len64_f (n := m) (by omega) hk
  unfold varint_Len.f
  rw [hf]; simp only [Option.bind_some]
  rw [w64 (n := (L : Int) + 6) (by omega) (by omega), Int.tdiv_eq_ediv_of_nonneg (by omega), w64 (by omega) (by omega), Int.toNat_natCast, hb.enc]
  unfold mx
  split <;> (congr 1; omega)

theorem VarintPuts : concourselaw01_VarintPuts.Pure := by
  intro n m hn hm
  obtain ⟨n0, n1⟩ := wf_u64 hn
  obtain ⟨m0, m1⟩ := wf_i64 hm
  have ht := turn_range m0 m1
  refine ⟨40, ?_⟩
  unfold concourselaw01_VarintPuts.f
  rw [refput_f n0 n1 (by decide), put_f n0 n1 (by decide), len_f n0 n1 (by decide), turn_f m0 m1, refturn_f m0 m1, back_f n0 n1, refback_f n0 n1, putint_f m0 m1 (by decide), awake_f (by decide)]
  simp only [Option.bind_some, if_true]
  rw [ba_size, if_pos rfl, refput_f ht.1 ht.2 (by decide)]
  simp only [Option.bind_some, if_true]

end Go.Proofs.Ytpdlbdmcoghohaa.Pure
