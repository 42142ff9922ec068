/- For all texts and numbers: the bytes of which a number is taken are those that are put for it, a greater number has no fewer bytes, unlike numbers have unlike bytes. No conditions. -/
import Derived.Test.YtpdlbdmcoghohaaPVarintOnex2
import Derived.Test.YtpdlbdmcoghohaaVB
namespace Go.Proofs.Ytpdlbdmcoghohaa.Pure
open Go.RowKit Go.Proofs.Ytpdlbdmcoghohaa.PVarintOne Go.Proofs.YtpdlbdmcoghohaaW.PrintWords Go.Proofs.YtpdlbdmcoghohaaW.PrintLast Go.Proofs.YtpdlbdmcoghohaaW.PrintMore Go.Proofs.Ytpdlbdmcoghohaa.VM
set_option linter.unusedSimpArgs false
set_option linter.unusedVariables false

/-- varint.Put, as a list of bytes. -/
theorem put_l0 (k : Nat) : ∀ (n : Nat) (acc : List Int), n < 128 ^ (k + 1) → acc.length + k < 1000 → varint_Put.l0 (k + 1) (n : Int) acc = some (ba ((acc.map fun n => UInt8.ofNat n.toNat) ++ enc n)) := by
  induction k with
  | zero =>
    intro n acc hn hl
    simp only [varint_Put.l0]
    rw [if_pos (by omega), if_pos (by omega), enc_lt (by omega)]
    simp only [strOfNums, ba, List.map_append, List.map_cons, List.map_nil]
    rw [show ((n : Int) % 256).toNat = n by omega]
  | succ k ih =>
    intro n acc hn hl
    rw [varint_Put.l0]
    by_cases h : n < 128
    · rw [if_pos (by omega), if_pos (by omega), enc_lt h]
      simp only [strOfNums, ba, List.map_append, List.map_cons, List.map_nil]
      rw [show ((n : Int) % 256).toNat = n by omega]
    · rw [if_neg (by omega), if_pos (by omega), or128' (by omega) (by omega), show (n : Int) / 128 = ((n / 128 : Nat) : Int) by omega, ih (n / 128) _ (by rw [Nat.pow_succ] at hn; exact Nat.div_lt_of_lt_mul (by rw [Nat.mul_comm]; exact hn)) (by simp; omega), enc_ge h]
      simp only [List.map_append, List.map_cons, List.map_nil, List.append_assoc, List.cons_append, List.nil_append]
      rw [show ((n : Int) % 256 % 128 + 128).toNat = n % 128 + 128 by omega]
theorem put_f {n : Int} (h0 : 0 ≤ n) (h1 : n < 18446744073709551616) {k : Nat} (hk : 10 ≤ k) : varint_Put.f k n = some (ba (enc n.toNat)) := by
  obtain ⟨m, rfl⟩ := Int.eq_ofNat_of_zero_le h0
  refine at_rounds (varint_Put.mono _) hk ?_
  rw [varint_Put.f, put_l0 9 m [] (by simp only [Nat.reducePow, Nat.reduceAdd]; omega) (by simp)]
  simp
/-- varint.Take. -/
theorem take_j1 (k : Nat) (s : ByteArray) (acc c : Nat) (i : Nat) (m : Int) (b : Bool) (hi : i ≤ 9) :
    varint_Take.j1 (k + 2) s acc i c m i b = if b = true ∨ (c = 0 ∧ i > 0) then some (0, 0, 1)
      else if c < 128 then some (Go.bits .or .u64 acc (shl .u64 (IntKind.u64.wrap (Go.bits .and .u8 c 127)) (wrap64 (7 * (i : Int)))), wrap64 (i + 1), 0)
      else varint_Take.l0 k s (Go.bits .or .u64 acc (shl .u64 (IntKind.u64.wrap (Go.bits .and .u8 c 127)) (wrap64 (7 * (i : Int))))) m (wrap64 (i + 1)) := by
  have hw : 0 ≤ wrap64 (7 * (i : Int)) := by rw [w64 (by omega) (by omega)]; omega
  cases b with
  | true => simp only [varint_Take.j1, varint_Take.j2, if_true, true_or]
  | false =>
    simp only [varint_Take.j1]
    rw [if_neg (by simp)]
    by_cases hc : c = 0
    · rw [if_pos (by omega)]
      simp only [varint_Take.j2]
      by_cases h0 : i > 0
      · rw [if_pos (by simp; omega), if_pos (.inr ⟨hc, h0⟩)]
      · rw [if_neg (by simp; omega), if_pos hw, if_pos (by omega), if_neg (by simp; omega), if_pos (by omega)]
    · rw [if_neg (by omega)]
      simp only [varint_Take.j2]
      rw [if_neg (by simp), if_pos hw]
      by_cases h1 : c < 128
      · rw [if_pos (by omega), if_neg (by simp; omega), if_pos h1]
      · rw [if_neg (by omega), if_neg (by simp; omega), if_neg h1]
theorem take_l0 (s : ByteArray) (d : Nat) : ∀ (k i acc : Nat), i + d = 9 → i ≤ s.size → acc < 128 ^ i → 3 * d + 3 ≤ k →
    varint_Take.l0 (k + 1) s (acc : Int) (mn (s.size : Int) 10) (i : Int) = some (fin i acc (tk i (s.data.toList.drop i))) := by
  induction d with
  | zero =>
    intro k i acc hi hs ha hk
    obtain rfl : i = 9 := by omega
    rw [varint_Take.l0]
    by_cases he : s.size = 9
    · rw [if_neg (by unfold mn; split <;> omega), List.drop_of_length_le (by rw [← size_len]; omega)]; rfl
    · have hl : 9 < s.data.toList.length := by rw [← size_len]; omega
      have hb := (s.data.toList.getD 9 0).toNat_lt
      obtain ⟨k, rfl⟩ : ∃ j, k = j + 2 := ⟨k - 2, by omega⟩
      rw [if_pos (by unfold mn; split <;> omega), if_pos (by omega), if_pos (by omega), if_pos (by omega), bt_getD, fin_step hl, take_j1 k s acc _ 9 _ _ (by omega), show ((9 : Nat) : Int).toNat = 9 from rfl]
      by_cases h1 : (s.data.toList.getD 9 0).toNat > 1
      · rw [if_pos (.inl (decide_eq_true (by omega))), if_pos (.inl ⟨rfl, h1⟩)]
      · by_cases h2 : (s.data.toList.getD 9 0).toNat = 0
        · rw [if_pos (.inr ⟨h2, by omega⟩), if_pos (.inr ⟨h2, by omega⟩)]
        · rw [if_neg (by simp only [decide_eq_true_eq]; omega), if_pos (by omega), if_neg (by omega), if_pos (by omega), and127 (by omega) (by omega), show (((s.data.toList.getD 9 0).toNat : Int) % 128) = (((s.data.toList.getD 9 0).toNat : Nat) : Int) by omega, or_shl ha (by omega) (by simp only [Nat.reducePow]; omega) (by omega), w64 (by omega) (by omega)]
          rfl
  | succ d ih =>
    intro k i acc hi hs ha hk
    rw [varint_Take.l0]
    by_cases he : s.size = i
    · rw [if_neg (by unfold mn; split <;> omega), List.drop_of_length_le (by rw [← size_len]; omega)]; rfl
    · have hl : i < s.data.toList.length := by rw [← size_len]; omega
      have hb := (s.data.toList.getD i 0).toNat_lt
      obtain ⟨k, rfl⟩ : ∃ j, k = j + 3 := ⟨k - 3, by omega⟩
      have hp8 : 128 ^ i ≤ 128 ^ 8 := Nat.pow_le_pow_right (by decide) (by omega)
      rw [if_pos (by unfold mn; split <;> omega), if_pos (by omega), if_pos (by omega), if_neg (by omega), bt_getD, fin_step hl, Int.toNat_natCast, take_j1 (k + 1) s acc _ i _ _ (by omega)]
      by_cases h2 : (s.data.toList.getD i 0).toNat = 0 ∧ i > 0
      · rw [if_pos (.inr h2), if_pos (.inr h2)]
      · rw [if_neg (by simp only [Bool.false_eq_true, false_or]; exact h2)]
        have hm : Go.bits .and .u8 (((s.data.toList.getD i 0).toNat : Nat) : Int) 127 = (((s.data.toList.getD i 0).toNat % 128 : Nat) : Int) := by rw [and127 (by omega) (by omega)]; omega
        have hq : (s.data.toList.getD i 0).toNat % 128 * 128 ^ i ≤ 127 * 128 ^ i := Nat.mul_le_mul_right _ (by omega)
        rw [hm, or_shl ha (by omega) (by simp only [Nat.reducePow] at hp8; omega) (by omega), w64 (by omega) (by omega)]
        by_cases h3 : (s.data.toList.getD i 0).toNat < 128
        · rw [if_pos h3, if_neg (by omega), if_pos h3, Nat.mod_eq_of_lt h3]; simp
        · rw [if_neg h3, if_neg (by omega), if_neg h3, show (s.data.toList.getD i 0).toNat % 128 = (s.data.toList.getD i 0).toNat - 128 by omega]
          exact ih k (i + 1) _ (by omega) (by omega) (by rw [Nat.pow_succ]; have : ((s.data.toList.getD i 0).toNat - 128) * 128 ^ i ≤ 127 * 128 ^ i := Nat.mul_le_mul_right _ (by omega); omega) (by omega)
theorem take_f (s : ByteArray) {k : Nat} (hk : 31 ≤ k) : varint_Take.f k s = some (tkI s.data.toList) := by
  refine at_rounds (varint_Take.mono _) hk ?_
  rw [varint_Take.f, show (0 : Int) = ((0 : Nat) : Int) from rfl, take_l0 s 9 30 0 0 rfl (by omega) (by simp) (by omega), List.drop_zero, fin0]
theorem turn_f {a : Int} (h0 : -9223372036854775808 ≤ a) (h1 : a < 9223372036854775808) : varint_Turn.f a = some (turn a) := by
  unfold varint_Turn.f; rw [turn_bits h0 h1]
theorem tab_bt (i : Int) : bt (ba tab) i = ((tab.getD i.toNat 0).toNat : Int) := by rw [bt_getD, ba_data]
set_option maxRecDepth 100000 in
theorem len64_f {n : Nat} (h : n < 18446744073709551616) {k : Nat} (hk : 2 ≤ k) : ∃ L : Nat, L ≤ 64 ∧ Blen n L ∧ bits_Len64.f k (n : Int) = some (L : Int) := by
  obtain ⟨k, rfl⟩ : ∃ j, k = j + 1 := ⟨k - 1, by omega⟩
  have hj : ∀ (m c : Nat), m < 4294967296 → c ≤ 32 → ∃ L : Nat, L ≤ 32 ∧ Blen m L ∧ bits_Len64.j0 (k + 1) (m : Int) (c : Int) = some ((L + c : Nat) : Int) := by
    intro m c hm hc
    have tb : ∀ i : Int, bt (⟨#[0, 1, 2, 2, 3, 3, 3, 3, 4, 4, 4, 4, 4, 4, 4, 4, 5, 5, 5, 5, 5, 5, 5, 5, 5, 5, 5, 5, 5, 5, 5, 5, 6, 6, 6, 6, 6, 6, 6, 6, 6, 6, 6, 6, 6, 6, 6, 6, 6, 6, 6, 6, 6, 6, 6, 6, 6, 6, 6, 6, 6, 6, 6, 6, 7, 7, 7, 7, 7, 7, 7, 7, 7, 7, 7, 7, 7, 7, 7, 7, 7, 7, 7, 7, 7, 7, 7, 7, 7, 7, 7, 7, 7, 7, 7, 7, 7, 7, 7, 7, 7, 7, 7, 7, 7, 7, 7, 7, 7, 7, 7, 7, 7, 7, 7, 7, 7, 7, 7, 7, 7, 7, 7, 7, 7, 7, 7, 7, 8, 8, 8, 8, 8, 8, 8, 8, 8, 8, 8, 8, 8, 8, 8, 8, 8, 8, 8, 8, 8, 8, 8, 8, 8, 8, 8, 8, 8, 8, 8, 8, 8, 8, 8, 8, 8, 8, 8, 8, 8, 8, 8, 8, 8, 8, 8, 8, 8, 8, 8, 8, 8, 8, 8, 8, 8, 8, 8, 8, 8, 8, 8, 8, 8, 8, 8, 8, 8, 8, 8, 8, 8, 8, 8, 8, 8, 8, 8, 8, 8, 8, 8, 8, 8, 8, 8, 8, 8, 8, 8, 8, 8, 8, 8, 8, 8, 8, 8, 8, 8, 8, 8, 8, 8, 8, 8, 8, 8, 8, 8, 8, 8, 8, 8, 8, 8, 8, 8, 8, 8, 8, 8, 8, 8, 8, 8, 8]⟩ : ByteArray) i = ((tab.getD i.toNat 0).toNat : Int) := fun i => tab_bt i
    simp only [bits_Len64.j0, tb]
    by_cases h1 : m < 65536
    · rw [if_neg (by omega)]
      by_cases h2 : m < 256
      · have hs := tab_small h2
        refine ⟨_, ?_, tab_blen h2, ?_⟩
        · omega
        · rw [if_neg (by omega), if_pos (by omega), if_pos (by omega), show ((m : Int) % 256).toNat = m by omega, w64 (n := ((tab.getD m 0).toNat : Int)) (by omega) (by omega), w64 (by omega) (by omega)]
          congr 1; omega
      · have hd : m / 2 ^ 8 < 256 := by simp only [Nat.reducePow]; omega
        have hs := tab_small hd
        refine ⟨_, ?_, (tab_blen hd).up (by simp only [Nat.reducePow]; omega), ?_⟩
        · omega
        · simp only [Nat.reducePow] at hs ⊢
          rw [if_pos (by omega), if_pos (by omega), if_pos (by omega), show ((m : Int) / 256 % 256).toNat = m / 256 by omega, w64 (n := (c : Int) + 8) (by omega) (by omega), w64 (n := ((tab.getD (m / 256) 0).toNat : Int)) (by omega) (by omega), w64 (by omega) (by omega)]
          congr 1; omega
    · rw [if_pos (by omega)]
      by_cases h2 : m / 65536 < 256
      · have hd : m / 2 ^ 16 < 256 := by simp only [Nat.reducePow]; omega
        have hs := tab_small hd
        refine ⟨_, ?_, (tab_blen hd).up (by simp only [Nat.reducePow]; omega), ?_⟩
        · omega
        · simp only [Nat.reducePow] at hs ⊢
          rw [if_neg (by omega), if_pos (by omega), if_pos (by omega), show ((m : Int) / 65536 % 256).toNat = m / 65536 by omega, w64 (n := (c : Int) + 16) (by omega) (by omega), w64 (n := ((tab.getD (m / 65536) 0).toNat : Int)) (by omega) (by omega), w64 (by omega) (by omega)]
          congr 1; omega
      · have hd : m / 2 ^ 16 / 2 ^ 8 < 256 := by simp only [Nat.reducePow]; omega
        have hs := tab_small hd
        refine ⟨_, ?_, ((tab_blen hd).up (by simp only [Nat.reducePow]; omega)).up (by simp only [Nat.reducePow]; omega), ?_⟩
        · omega
        · simp only [Nat.reducePow] at hs ⊢
          rw [if_pos (by omega), if_pos (by omega), if_pos (by omega), show ((m : Int) / 65536 / 256 % 256).toNat = m / 65536 / 256 by omega, w64 (n := (c : Int) + 16) (by omega) (by omega), w64 (n := (c : Int) + 16 + 8) (by omega) (by omega), w64 (n := ((tab.getD (m / 65536 / 256) 0).toNat : Int)) (by omega) (by omega), w64 (by omega) (by omega)]
          congr 1; omega
  unfold bits_Len64.f
  by_cases h1 : n < 4294967296
  · obtain ⟨L, h2, h3, h4⟩ := hj n 0 h1 (by omega)
    refine ⟨L, by omega, h3, ?_⟩
    rw [if_neg (by omega)]; exact h4
  · obtain ⟨L, h2, h3, h4⟩ := hj (n / 4294967296) 32 (by omega) (by omega)
    refine ⟨L + 32, by omega, Blen.up (s := 32) (by simp only [Nat.reducePow]; exact h3) (by simp only [Nat.reducePow]; omega), ?_⟩
    rw [if_pos (by omega), show (n : Int) / 4294967296 = ((n / 4294967296 : Nat) : Int) by omega]; exact h4
theorem len_f {n : Int} (h0 : 0 ≤ n) (h1 : n < 18446744073709551616) {k : Nat} (hk : 2 ≤ k) : varint_Len.f k n = some ((enc n.toNat).length : Int) := by
  obtain ⟨m, rfl⟩ := Int.eq_ofNat_of_zero_le h0
  obtain ⟨L, hL, hb, hf⟩ := len64_f (n := m) (by omega) hk
  unfold varint_Len.f
  rw [hf]; simp only [Option.bind_some]
  rw [w64 (n := (L : Int) + 6) (by omega) (by omega), Int.tdiv_eq_ediv_of_nonneg (by omega), w64 (by omega) (by omega), Int.toNat_natCast, hb.enc]
  unfold mx
  split <;> (congr 1; omega)
theorem enc300 : enc 300 = [172, 2] := by rw [enc_ge (by decide), enc_lt (by decide)]; rfl
theorem awake_f {k : Nat} (hk : 10 ≤ k) : concourselaw01_awake.f k = some true := by
  unfold concourselaw01_awake.f
  rw [put_f (by decide) (by decide) hk, turn_f (by decide) (by decide)]
  simp only [Option.bind_some]
  rw [ba_toList, show ((300 : Int).toNat) = 300 from rfl, enc300, if_pos rfl]; rfl

theorem one_j0 {n m : Int} (n0 : 0 ≤ n) (n1 : n < 18446744073709551616) (m0 : 0 ≤ m) (m1 : m < 18446744073709551616) {k : Nat} (hk : 40 ≤ k) : concourselaw01_VarintOne.j0 (k + 1) n m false = some true := by
  have he : ((n == m) == ((ba (enc n.toNat)).toList == (ba (enc m.toNat)).toList)) = true := by
    rw [ba_toList, ba_toList]
    by_cases h : n = m
    · subst h; simp
    · have : enc n.toNat ≠ enc m.toNat := fun e => h (by have := enc_inj (by omega) (by omega) e; omega)
      rw [beq_eq_false_iff_ne.2 h, beq_eq_false_iff_ne.2 this]; rfl
  simp only [concourselaw01_VarintOne.j0]
  rw [if_neg (by decide), put_f n0 n1 (by omega), put_f m0 m1 (by omega), len_f n0 n1 (by omega), len_f m0 m1 (by omega), awake_f (by omega)]
  simp only [Option.bind_some]
  rw [if_pos he]
  by_cases h : n > m
  · rw [if_pos h]
  · rw [if_neg h, if_pos (by have := enc_mono (n := n.toNat) (m := m.toNat) (by omega); omega)]
theorem VarintOne : concourselaw01_VarintOne.Pure := by
  intro b n m hb hn hm
  obtain ⟨n0, n1⟩ := wf_u64 hn
  obtain ⟨m0, m1⟩ := wf_u64 hm
  refine ⟨60, ?_⟩
  unfold concourselaw01_VarintOne.f
  rw [take_f _ (by decide)]
  simp only [Option.bind_some]
  by_cases h : (tkI b.data.toList).2.2 = 0
  · obtain ⟨x, j, e, e1, e2, e3, e4, e5, e6⟩ := tkI_ok h
    rw [e]
    simp only [if_true]
    rw [size_len, if_neg (by omega), if_neg (by omega), if_neg (by omega), put_f (by omega) (by omega) (by decide)]
    simp only [Option.bind_some]
    rw [if_pos (by omega), if_pos (by omega), ba_toList, ByteArray.toList_eq, Lib.extract_data, List.drop_zero, Nat.sub_zero, Int.toNat_natCast, Int.toNat_natCast, e1]
    simp only [bne_self_eq_false]
    exact one_j0 n0 n1 m0 m1 (by decide)
  · rw [if_neg h]
    exact one_j0 n0 n1 m0 m1 (by decide)

end Go.Proofs.Ytpdlbdmcoghohaa.Pure
