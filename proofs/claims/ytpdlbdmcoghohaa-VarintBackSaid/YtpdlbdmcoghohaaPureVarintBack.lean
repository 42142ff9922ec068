/- For all numbers and texts: what varint puts it takes, whatever stands behind it, and no beginning of it is a number. No conditions. -/
import Derived.Test.YtpdlbdmcoghohaaPVarintBackx2
import Derived.Test.YtpdlbdmcoghohaaVB
namespace Go.Proofs.Ytpdlbdmcoghohaa.Pure
open Go.RowKit Go.Proofs.Ytpdlbdmcoghohaa.PVarintBack Go.Proofs.YtpdlbdmcoghohaaW.PrintWords Go.Proofs.YtpdlbdmcoghohaaW.PrintLast Go.Proofs.YtpdlbdmcoghohaaW.PrintMore Go.Proofs.Ytpdlbdmcoghohaa.VM
set_option linter.unusedSimpArgs false
set_option linter.unusedVariables false

/-- varint.Put, as a list of bytes. -/
theorem put_l0 (k : Nat) : ∀ (n : Nat) (acc : List Int), n < 128 ^ (k + 1) → acc.length + k < 1000 → varint_Put.l0 (k + 1) (n : Int) acc = some (ba ((acc.map fun n => UInt8.ofNat n.toNat) ++ enc n)) := by
  induction k with
  | zero =>
    intro n acc hn hl
    simp only [varint_Put.l0]
    rw [if_pos (by omega), if_pos (by omega), enc_lt (by omega)]
    simp only [strOfNums, ba, List.map_append, List.map_cons, List.map_nil]
    rw [show ((n : Int) % 256).toNat = n by omega]
  | succ k ih =>
    intro n acc hn hl
    rw [varint_Put.l0]
    by_cases h : n < 128
    · rw [if_pos (by omega), if_pos (by omega), enc_lt h]
      simp only [strOfNums, ba, List.map_append, List.map_cons, List.map_nil]
      rw [show ((n : Int) % 256).toNat = n by omega]
    · rw [if_neg (by omega), if_pos (by omega), or128' (by omega) (by omega), show (n : Int) / 128 = ((n / 128 : Nat) : Int) by omega, ih (n / 128) _ (by rw [Nat.pow_succ] at hn; exact Nat.div_lt_of_lt_mul (by rw [Nat.mul_comm]; exact hn)) (by simp; omega), enc_ge h]
      simp only [List.map_append, List.map_cons, List.map_nil, List.append_assoc, List.cons_append, List.nil_append]
      rw [show ((n : Int) % 256 % 128 + 128).toNat = n % 128 + 128 by omega]
theorem put_f {n : Int} (h0 : 0 ≤ n) (h1 : n < 18446744073709551616) {k : Nat} (hk : 10 ≤ k) : varint_Put.f k n = some (ba (enc n.toNat)) := by
  obtain ⟨m, rfl⟩ := Int.eq_ofNat_of_zero_le h0
  refine at_rounds (varint_Put.mono _) hk ?_
  rw [varint_Put.f, put_l0 9 m [] (by simp only [Nat.reducePow, Nat.reduceAdd]; omega) (by simp)]
  simp
/-- varint.Take. -/
theorem take_j1 (k : Nat) (s : ByteArray) (acc c : Nat) (i : Nat) (m : Int) (b : Bool) (hi : i ≤ 9) :
    varint_Take.j1 (k + 2) s acc i c m i b = if b = true ∨ (c = 0 ∧ i > 0) then some (0, 0, 1)
      else if c < 128 then some (Go.bits .or .u64 acc (shl .u64 (IntKind.u64.wrap (Go.bits .and .u8 c 127)) (wrap64 (7 * (i : Int)))), wrap64 (i + 1), 0)
      else varint_Take.l0 k s (Go.bits .or .u64 acc (shl .u64 (IntKind.u64.wrap (Go.bits .and .u8 c 127)) (wrap64 (7 * (i : Int))))) m (wrap64 (i + 1)) := by
  have hw : 0 ≤ wrap64 (7 * (i : Int)) := by rw [w64 (by omega) (by omega)]; omega
  cases b with
  | true => simp only [varint_Take.j1, varint_Take.j2, if_true, true_or]
  | false =>
    simp only [varint_Take.j1]
    rw [if_neg (by simp)]
    by_cases hc : c = 0
    · rw [if_pos (by omega)]
      simp only [varint_Take.j2]
      by_cases h0 : i > 0
      · rw [if_pos (by simp; omega), if_pos (.inr ⟨hc, h0⟩)]
      · rw [if_neg (by simp; omega), if_pos hw, if_pos (by omega), if_neg (by simp; omega), if_pos (by omega)]
    · rw [if_neg (by omega)]
      simp only [varint_Take.j2]
      rw [if_neg (by simp), if_pos hw]
      by_cases h1 : c < 128
      · rw [if_pos (by omega), if_neg (by simp; omega), if_pos h1]
      · rw [if_neg (by omega), if_neg (by simp; omega), if_neg h1]
theorem take_l0 (s : ByteArray) (d : Nat) : ∀ (k i acc : Nat), i + d = 9 → i ≤ s.size → acc < 128 ^ i → 3 * d + 3 ≤ k →
    varint_Take.l0 (k + 1) s (acc : Int) (mn (s.size : Int) 10) (i : Int) = some (fin i acc (tk i (s.data.toList.drop i))) := by
  induction d with
  | zero =>
    intro k i acc hi hs ha hk
    obtain rfl : i = 9 := by omega
    rw [varint_Take.l0]
    by_cases he : s.size = 9
    · rw [if_neg (by unfold mn; split <;> omega), List.drop_of_length_le (by rw [← size_len]; omega)]; rfl
    · have hl : 9 < s.data.toList.length := by rw [← size_len]; omega
      have hb := (s.data.toList.getD 9 0).toNat_lt
      obtain ⟨k, rfl⟩ : ∃ j, k = j + 2 := ⟨k - 2, by omega⟩
      rw [if_pos (by unfold mn; split <;> omega), if_pos (by omega), if_pos (by omega), if_pos (by omega), bt_getD, fin_step hl, take_j1 k s acc _ 9 _ _ (by omega), show ((9 : Nat) : Int).toNat = 9 from rfl]
      by_cases h1 : (s.data.toList.getD 9 0).toNat > 1
      · rw [if_pos (.inl (decide_eq_true (by omega))), if_pos (.inl ⟨rfl, h1⟩)]
      · by_cases h2 : (s.data.toList.getD 9 0).toNat = 0
        · rw [if_pos (.inr ⟨h2, by omega⟩), if_pos (.inr ⟨h2, by omega⟩)]
        · rw [if_neg (by simp only [decide_eq_true_eq]; omega), if_pos (by omega), if_neg (by omega), if_pos (by omega), and127 (by omega) (by omega), show (((s.data.toList.getD 9 0).toNat : Int) % 128) = (((s.data.toList.getD 9 0).toNat : Nat) : Int) by omega, or_shl ha (by omega) (by simp only [Nat.reducePow]; omega) (by omega), w64 (by omega) (by omega)]
          rfl
  | succ d ih =>
    intro k i acc hi hs ha hk
    rw [varint_Take.l0]
    by_cases he : s.size = i
    · rw [if_neg (by unfold mn; split <;> omega), List.drop_of_length_le (by rw [← size_len]; omega)]; rfl
    · have hl : i < s.data.toList.length := by rw [← size_len]; omega
      have hb := (s.data.toList.getD i 0).toNat_lt
      obtain ⟨k, rfl⟩ : ∃ j, k = j + 3 := ⟨k - 3, by omega⟩
      have hp8 : 128 ^ i ≤ 128 ^ 8 := Nat.pow_le_pow_right (by decide) (by omega)
      rw [if_pos (by unfold mn; split <;> omega), if_pos (by omega), if_pos (by omega), if_neg (by omega), bt_getD, fin_step hl, Int.toNat_natCast, take_j1 (k + 1) s acc _ i _ _ (by omega)]
      by_cases h2 : (s.data.toList.getD i 0).toNat = 0 ∧ i > 0
      · rw [if_pos (.inr h2), if_pos (.inr h2)]
      · rw [if_neg (by simp only [Bool.false_eq_true, false_or]; exact h2)]
        have hm : Go.bits .and .u8 (((s.data.toList.getD i 0).toNat : Nat) : Int) 127 = (((s.data.toList.getD i 0).toNat % 128 : Nat) : Int) := by rw [and127 (by omega) (by omega)]; omega
        have hq : (s.data.toList.getD i 0).toNat % 128 * 128 ^ i ≤ 127 * 128 ^ i := Nat.mul_le_mul_right _ (by omega)
        rw [hm, or_shl ha (by omega) (by simp only [Nat.reducePow] at hp8; omega) (by omega), w64 (by omega) (by omega)]
        by_cases h3 : (s.data.toList.getD i 0).toNat < 128
        · rw [if_pos h3, if_neg (by omega), if_pos h3, Nat.mod_eq_of_lt h3]; simp
        · rw [if_neg h3, if_neg (by omega), if_neg h3, show (s.data.toList.getD i 0).toNat % 128 = (s.data.toList.getD i 0).toNat - 128 by omega]
          exact ih k (i + 1) _ (by omega) (by omega) (by rw [Nat.pow_succ]; have : ((s.data.toList.getD i 0).toNat - 128) * 128 ^ i ≤ 127 * 128 ^ i := Nat.mul_le_mul_right _ (by omega); omega) (by omega)
theorem take_f (s : ByteArray) {k : Nat} (hk : 31 ≤ k) : varint_Take.f k s = some (tkI s.data.toList) := by
  refine at_rounds (varint_Take.mono _) hk ?_
  rw [varint_Take.f, show (0 : Int) = ((0 : Nat) : Int) from rfl, take_l0 s 9 30 0 0 rfl (by omega) (by simp) (by omega), List.drop_zero, fin0]
theorem turn_f {a : Int} (h0 : -9223372036854775808 ≤ a) (h1 : a < 9223372036854775808) : varint_Turn.f a = some (turn a) := by
  unfold varint_Turn.f; rw [turn_bits h0 h1]
theorem back_f {a : Int} (h0 : 0 ≤ a) (h1 : a < 18446744073709551616) : varint_Back.f a = some (back a) := by
  unfold varint_Back.f; rw [back_bits h0 h1]
theorem enc300 : enc 300 = [172, 2] := by rw [enc_ge (by decide), enc_lt (by decide)]; rfl
theorem awake_f {k : Nat} (hk : 10 ≤ k) : concourselaw01_awake.f k = some true := by
  unfold concourselaw01_awake.f
  rw [put_f (by decide) (by decide) hk, turn_f (by decide) (by decide)]
  simp only [Option.bind_some]
  rw [ba_toList, show ((300 : Int).toNat) = 300 from rfl, enc300, if_pos rfl]; rfl
theorem putint_f {a : Int} (h0 : -9223372036854775808 ≤ a) (h1 : a < 9223372036854775808) {k : Nat} (hk : 10 ≤ k) : varint_PutInt.f k a = some (ba (enc (turn a).toNat)) := by
  have ht := turn_range h0 h1
  unfold varint_PutInt.f
  rw [turn_f h0 h1]; simp only [Option.bind_some]
  rw [put_f ht.1 ht.2 hk]; rfl
theorem takeint_f (s : ByteArray) {k : Nat} (hk : 31 ≤ k) : varint_TakeInt.f k s = some (if (tkI s.data.toList).2.2 = 0 then (back (tkI s.data.toList).1, (tkI s.data.toList).2.1, 0) else (0, 0, (tkI s.data.toList).2.2)) := by
  have hr := tkI_range s.data.toList
  unfold varint_TakeInt.f
  rw [take_f s hk]; simp only [Option.bind_some]
  rw [back_f hr.1 hr.2.1]; simp only [Option.bind_some]
  split <;> rfl

theorem back_l0 {n m : Int} (n0 : 0 ≤ n) (n1 : n < 18446744073709551616) (m0 : -9223372036854775808 ≤ m) (m1 : m < 9223372036854775808) (d : Nat) : ∀ (k i : Nat), i + d = (enc n.toNat).length → 40 + d ≤ k →
    concourselaw01_VarintBack.l0 (k + 1) n m (ba (enc n.toNat)) (i : Int) = some true := by
  have hl := enc_len10 (n := n.toNat) (by omega)
  have ht := turn_range m0 m1
  have hb := back_range n0 n1
  induction d with
  | zero =>
    intro k i hi hk
    rw [concourselaw01_VarintBack.l0, ba_size, if_neg (by omega), turn_f m0 m1]
    simp only [Option.bind_some]
    rw [back_f ht.1 ht.2]
    simp only [Option.bind_some, back_turn, if_true]
    rw [back_f n0 n1]
    simp only [Option.bind_some]
    rw [turn_f hb.1 hb.2, turn_back n0]
    simp only [Option.bind_some, if_true]
    rw [awake_f (by omega)]; rfl
  | succ d ih =>
    intro k i hi hk
    rw [concourselaw01_VarintBack.l0, ba_size, if_pos (by omega), if_pos (by omega), if_pos (by omega), take_f _ (by omega), Lib.extract_data, ba_data]
    simp only [Option.bind_some, List.drop_zero, Int.toNat_natCast, Nat.sub_zero]
    rw [tkI_short (by omega) (by omega)]
    simp only [if_true]
    rw [w64 (by omega) (by omega)]
    obtain ⟨k, rfl⟩ : ∃ j, k = j + 1 := ⟨k - 1, by omega⟩
    exact ih k (i + 1) (by omega) (by omega)
theorem VarintBack : concourselaw01_VarintBack.Pure := by
  intro n m b hn hm hb
  obtain ⟨n0, n1⟩ := wf_u64 hn
  obtain ⟨m0, m1⟩ := wf_i64 hm
  have ht := turn_range m0 m1
  have hl := enc_len10 (n := n.toNat) (by omega)
  have hl2 := enc_len10 (n := (turn m).toNat) (by omega)
  refine ⟨60, ?_⟩
  unfold concourselaw01_VarintBack.f
  rw [put_f n0 n1 (by decide)]
  simp only [Option.bind_some]
  rw [putint_f m0 m1 (by decide), take_f _ (by decide), ba_size, if_pos (by omega)]
  simp only [Option.bind_some]
  rw [takeint_f _ (by decide), ba_size, if_pos (by omega), ba_appendR, ba_appendR, ba_data, ba_data, tkI_enc (by omega), tkI_enc (by omega)]
  simp only [Option.bind_some, if_true]
  rw [if_pos (by omega), if_pos (by rw [show ((turn m).toNat : Int) = turn m by omega, back_turn])]
  simp only [bne_self_eq_false, concourselaw01_VarintBack.j0]
  rw [if_neg (by decide)]
  exact back_l0 n0 n1 m0 m1 (enc n.toNat).length 58 0 (by omega) (by omega)

end Go.Proofs.Ytpdlbdmcoghohaa.Pure
