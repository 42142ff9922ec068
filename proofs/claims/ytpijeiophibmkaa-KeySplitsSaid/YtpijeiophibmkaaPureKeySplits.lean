/- For all texts and wires: key.Skip and key.Split answer as the document's functions do. No conditions. -/
import Derived.Test.YtpijeiophibmkaaPKeySplitsx5
import Derived.Test.YtpijeiophibmkaaKM
namespace Go.Proofs.Ytpijeiophibmkaa.Pure
open Go.RowKit Go.Proofs.Ytpijeiophibmkaa.PKeySplits Go.Proofs.YtpijeiophibmkaaW.PrintWords Go.Proofs.YtpijeiophibmkaaW.PrintLast Go.Proofs.YtpijeiophibmkaaW.PrintMore Go.Proofs.Ytpijeiophibmkaa.VM
set_option linter.unusedSimpArgs false
set_option linter.unusedVariables false

/-- varint.Put, as a list of bytes. -/
theorem put_l0 (k : Nat) : ∀ (n : Nat) (acc : List Int), n < 128 ^ (k + 1) → acc.length + k < 1000 → varint_Put.l0 (k + 1) (n : Int) acc = some (ba ((acc.map fun n => UInt8.ofNat n.toNat) ++ enc n)) := by
  induction k with
  | zero =>
    intro n acc hn hl
    simp only [varint_Put.l0]
    rw [if_pos (by omega), if_pos (by omega), enc_lt (by omega)]
    simp only [strOfNums, ba, List.map_append, List.map_cons, List.map_nil]
    rw [show ((n : Int) % 256).toNat = n by omega]
  | succ k ih =>
    intro n acc hn hl
    rw [varint_Put.l0]
    by_cases h : n < 128
    · rw [if_pos (by omega), if_pos (by omega), enc_lt h]
      simp only [strOfNums, ba, List.map_append, List.map_cons, List.map_nil]
      rw [show ((n : Int) % 256).toNat = n by omega]
    · rw [if_neg (by omega), if_pos (by omega), or128' (by omega) (by omega), show (n : Int) / 128 = ((n / 128 : Nat) : Int) by omega, ih (n / 128) _ (by rw [Nat.pow_succ] at hn; exact Nat.div_lt_of_lt_mul (by rw [Nat.mul_comm]; exact hn)) (by simp; omega), enc_ge h]
      simp only [List.map_append, List.map_cons, List.map_nil, List.append_assoc, List.cons_append, List.nil_append]
      rw [show ((n : Int) % 256 % 128 + 128).toNat = n % 128 + 128 by omega]
theorem put_f {n : Int} (h0 : 0 ≤ n) (h1 : n < 18446744073709551616) {k : Nat} (hk : 10 ≤ k) : varint_Put.f k n = some (ba (enc n.toNat)) := by
  obtain ⟨m, rfl⟩ := Int.eq_ofNat_of_zero_le h0
  refine at_rounds (varint_Put.mono _) hk ?_
  rw [varint_Put.f, put_l0 9 m [] (by simp only [Nat.reducePow, Nat.reduceAdd]; omega) (by simp)]
  simp
/-- varint.Take. -/
theorem take_j1 (k : Nat) (s : ByteArray) (acc c : Nat) (i : Nat) (m : Int) (b : Bool) (hi : i ≤ 9) :
    varint_Take.j1 (k + 2) s acc i c m i b = if b = true ∨ (c = 0 ∧ i > 0) then some (0, 0, 1)
      else if c < 128 then some (Go.bits .or .u64 acc (shl .u64 (IntKind.u64.wrap (Go.bits .and .u8 c 127)) (wrap64 (7 * (i : Int)))), wrap64 (i + 1), 0)
      else varint_Take.l0 k s (Go.bits .or .u64 acc (shl .u64 (IntKind.u64.wrap (Go.bits .and .u8 c 127)) (wrap64 (7 * (i : Int))))) m (wrap64 (i + 1)) := by
  have hw : 0 ≤ wrap64 (7 * (i : Int)) := by rw [w64 (by omega) (by omega)]; omega
  cases b with
  | true => simp only [varint_Take.j1, varint_Take.j2, if_true, true_or]
  | false =>
    simp only [varint_Take.j1]
    rw [if_neg (by simp)]
    by_cases hc : c = 0
    · rw [if_pos (by omega)]
      simp only [varint_Take.j2]
      by_cases h0 : i > 0
      · rw [if_pos (by simp; omega), if_pos (.inr ⟨hc, h0⟩)]
      · rw [if_neg (by simp; omega), if_pos hw, if_pos (by omega), if_neg (by simp; omega), if_pos (by omega)]
    · rw [if_neg (by omega)]
      simp only [varint_Take.j2]
      rw [if_neg (by simp), if_pos hw]
      by_cases h1 : c < 128
      · rw [if_pos (by omega), if_neg (by simp; omega), if_pos h1]
      · rw [if_neg (by omega), if_neg (by simp; omega), if_neg h1]
theorem take_l0 (s : ByteArray) (d : Nat) : ∀ (k i acc : Nat), i + d = 9 → i ≤ s.size → acc < 128 ^ i → 3 * d + 3 ≤ k →
    varint_Take.l0 (k + 1) s (acc : Int) (mn (s.size : Int) 10) (i : Int) = some (fin i acc (tk i (s.data.toList.drop i))) := by
  induction d with
  | zero =>
    intro k i acc hi hs ha hk
    obtain rfl : i = 9 := by omega
    rw [varint_Take.l0]
    by_cases he : s.size = 9
    · rw [if_neg (by unfold mn; split <;> omega), List.drop_of_length_le (by rw [← size_len]; omega)]; rfl
    · have hl : 9 < s.data.toList.length := by rw [← size_len]; omega
      have hb := (s.data.toList.getD 9 0).toNat_lt
      obtain ⟨k, rfl⟩ : ∃ j, k = j + 2 := ⟨k - 2, by omega⟩
      rw [if_pos (by unfold mn; split <;> omega), if_pos (by omega), if_pos (by omega), if_pos (by omega), bt_getD, fin_step hl, take_j1 k s acc _ 9 _ _ (by omega), show ((9 : Nat) : Int).toNat = 9 from rfl]
      by_cases h1 : (s.data.toList.getD 9 0).toNat > 1
      · rw [if_pos (.inl (decide_eq_true (by omega))), if_pos (.inl ⟨rfl, h1⟩)]
      · by_cases h2 : (s.data.toList.getD 9 0).toNat = 0
        · rw [if_pos (.inr ⟨h2, by omega⟩), if_pos (.inr ⟨h2, by omega⟩)]
        · rw [if_neg (by simp only [decide_eq_true_eq]; omega), if_pos (by omega), if_neg (by omega), if_pos (by omega), and127 (by omega) (by omega), show (((s.data.toList.getD 9 0).toNat : Int) % 128) = (((s.data.toList.getD 9 0).toNat : Nat) : Int) by omega, or_shl ha (by omega) (by simp only [Nat.reducePow]; omega) (by omega), w64 (by omega) (by omega)]
          rfl
  | succ d ih =>
    intro k i acc hi hs ha hk
    rw [varint_Take.l0]
    by_cases he : s.size = i
    · rw [if_neg (by unfold mn; split <;> omega), List.drop_of_length_le (by rw [← size_len]; omega)]; rfl
    · have hl : i < s.data.toList.length := by rw [← size_len]; omega
      have hb := (s.data.toList.getD i 0).toNat_lt
      obtain ⟨k, rfl⟩ : ∃ j, k = j + 3 := ⟨k - 3, by omega⟩
      have hp8 : 128 ^ i ≤ 128 ^ 8 := Nat.pow_le_pow_right (by decide) (by omega)
      rw [if_pos (by unfold mn; split <;> omega), if_pos (by omega), if_pos (by omega), if_neg (by omega), bt_getD, fin_step hl, Int.toNat_natCast, take_j1 (k + 1) s acc _ i _ _ (by omega)]
      by_cases h2 : (s.data.toList.getD i 0).toNat = 0 ∧ i > 0
      · rw [if_pos (.inr h2), if_pos (.inr h2)]
      · rw [if_neg (by simp only [Bool.false_eq_true, false_or]; exact h2)]
        have hm : Go.bits .and .u8 (((s.data.toList.getD i 0).toNat : Nat) : Int) 127 = (((s.data.toList.getD i 0).toNat % 128 : Nat) : Int) := by rw [and127 (by omega) (by omega)]; omega
        have hq : (s.data.toList.getD i 0).toNat % 128 * 128 ^ i ≤ 127 * 128 ^ i := Nat.mul_le_mul_right _ (by omega)
        rw [hm, or_shl ha (by omega) (by simp only [Nat.reducePow] at hp8; omega) (by omega), w64 (by omega) (by omega)]
        by_cases h3 : (s.data.toList.getD i 0).toNat < 128
        · rw [if_pos h3, if_neg (by omega), if_pos h3, Nat.mod_eq_of_lt h3]; simp
        · rw [if_neg h3, if_neg (by omega), if_neg h3, show (s.data.toList.getD i 0).toNat % 128 = (s.data.toList.getD i 0).toNat - 128 by omega]
          exact ih k (i + 1) _ (by omega) (by omega) (by rw [Nat.pow_succ]; have : ((s.data.toList.getD i 0).toNat - 128) * 128 ^ i ≤ 127 * 128 ^ i := Nat.mul_le_mul_right _ (by omega); omega) (by omega)
theorem take_f (s : ByteArray) {k : Nat} (hk : 31 ≤ k) : varint_Take.f k s = some (tkI s.data.toList) := by
  refine at_rounds (varint_Take.mono _) hk ?_
  rw [varint_Take.f, show (0 : Int) = ((0 : Nat) : Int) from rfl, take_l0 s 9 30 0 0 rfl (by omega) (by simp) (by omega), List.drop_zero, fin0]
/-- The document's Take. -/
theorem reftake_l0 (s : ByteArray) (d : Nat) : ∀ (k i acc : Nat), i + d = 9 → i ≤ s.size → acc < 128 ^ i → 3 * d + 3 ≤ k →
    concourseref01_Take.l0 (k + 1) s (acc : Int) ((128 ^ i : Nat) : Int) (i : Int) = some (fin i acc (tk i (s.data.toList.drop i))) := by
  induction d with
  | zero =>
    intro k i acc hi hs ha hk
    obtain rfl : i = 9 := by omega
    obtain ⟨k, rfl⟩ : ∃ j, k = j + 2 := ⟨k - 2, by omega⟩
    rw [concourseref01_Take.l0]
    by_cases he : s.size = 9
    · rw [if_neg (by omega), List.drop_of_length_le (by rw [← size_len]; omega)]
      simp only [concourseref01_Take.j1]; rfl
    · have hl : 9 < s.data.toList.length := by rw [← size_len]; omega
      have hb := (s.data.toList.getD 9 0).toNat_lt
      rw [if_pos (by omega), fin_step hl]
      simp only [concourseref01_Take.j1]
      rw [if_pos (by simp), if_pos (by omega), if_pos (by omega), if_pos (by omega), bt_getD, show ((9 : Nat) : Int).toNat = 9 from rfl, u64i (by omega) (by omega)]
      by_cases h2 : (s.data.toList.getD 9 0).toNat = 0
      · rw [if_pos (by omega), if_pos (.inr ⟨h2, by omega⟩)]
        simp only [concourseref01_Take.j2, if_true]
      · rw [if_neg (by omega), if_pos (by rfl)]
        by_cases h1 : (s.data.toList.getD 9 0).toNat > 1
        · rw [if_pos (.inl ⟨by trivial, h1⟩)]
          simp only [concourseref01_Take.j2]
          rw [if_pos (decide_eq_true (by omega))]
        · rw [if_neg (by omega), if_pos (by omega)]
          simp only [concourseref01_Take.j2]
          rw [if_neg (by rw [decide_eq_true_eq]; omega), if_pos (by omega), Int.tmod_eq_emod_of_nonneg (by omega), show (((s.data.toList.getD 9 0).toNat : Int) % 128) = (((s.data.toList.getD 9 0).toNat : Nat) : Int) by omega]
          simp only [Nat.reducePow] at ha ⊢
          rw [u64i (n := ((s.data.toList.getD 9 0).toNat : Int) * ((9223372036854775808 : Nat) : Int)) (by omega) (by omega), u64i (by omega) (by omega), w64 (by omega) (by omega)]
          congr 2
  | succ d ih =>
    intro k i acc hi hs ha hk
    obtain ⟨k, rfl⟩ : ∃ j, k = j + 3 := ⟨k - 3, by omega⟩
    rw [concourseref01_Take.l0]
    by_cases he : s.size = i
    · rw [if_neg (by omega), List.drop_of_length_le (by rw [← size_len]; omega)]
      simp only [concourseref01_Take.j1]; rfl
    · have hl : i < s.data.toList.length := by rw [← size_len]; omega
      have hb := (s.data.toList.getD i 0).toNat_lt
      have hp8 : 128 ^ i ≤ 128 ^ 8 := Nat.pow_le_pow_right (by decide) (by omega)
      have hp0 : 0 < 128 ^ i := Nat.pow_pos (by decide)
      have hq : (s.data.toList.getD i 0).toNat % 128 * 128 ^ i ≤ 127 * 128 ^ i := Nat.mul_le_mul_right _ (by omega)
      rw [if_pos (by omega), fin_step hl]
      simp only [concourseref01_Take.j1]
      rw [if_pos (by simp; omega), if_pos (by omega), if_pos (by omega), bt_getD, Int.toNat_natCast, u64i (by omega) (by omega)]
      have hj : ∀ b : Bool, concourseref01_Take.j2 (k + 1 + 1) s acc ((128 ^ i : Nat) : Int) i ((s.data.toList.getD i 0).toNat : Int) b = if b = true then some (0, 0, 1)
          else if (s.data.toList.getD i 0).toNat < 128 then some ((((acc + (s.data.toList.getD i 0).toNat * 128 ^ i : Nat) : Int), ((i + 1 : Nat) : Int), 0))
          else some (fin (i + 1) (acc + ((s.data.toList.getD i 0).toNat - 128) * 128 ^ i) (tk (i + 1) (s.data.toList.drop (i + 1)))) := by
        intro b
        simp only [concourseref01_Take.j2]
        by_cases hbt : b = true
        · rw [if_pos hbt, if_pos hbt]
        · rw [if_neg hbt, if_neg hbt, Int.tmod_eq_emod_of_nonneg (by omega), show (((s.data.toList.getD i 0).toNat : Int) % 128) = (((s.data.toList.getD i 0).toNat % 128 : Nat) : Int) by omega,
            show ((((s.data.toList.getD i 0).toNat % 128 : Nat) : Int) * ((128 ^ i : Nat) : Int)) = (((s.data.toList.getD i 0).toNat % 128 * 128 ^ i : Nat) : Int) from (Int.natCast_mul _ _).symm]
          simp only [Nat.reducePow] at hp8
          rw [u64i (n := (((s.data.toList.getD i 0).toNat % 128 * 128 ^ i : Nat) : Int)) (by omega) (by omega), ← Int.natCast_add, u64i (by omega) (by omega), w64 (by omega) (by omega)]
          by_cases h3 : (s.data.toList.getD i 0).toNat < 128
          · rw [if_pos (by omega), if_pos h3, Nat.mod_eq_of_lt h3]; rfl
          · rw [if_neg (by omega), if_neg h3, show (s.data.toList.getD i 0).toNat % 128 = (s.data.toList.getD i 0).toNat - 128 by omega, u64i (by omega) (by omega),
              show ((128 ^ i : Nat) : Int) * 128 = ((128 ^ (i + 1) : Nat) : Int) by rw [Nat.pow_succ, Int.natCast_mul]; rfl]
            exact ih k (i + 1) _ (by omega) (by omega) (by rw [Nat.pow_succ]; have : ((s.data.toList.getD i 0).toNat - 128) * 128 ^ i ≤ 127 * 128 ^ i := Nat.mul_le_mul_right _ (by omega); omega) (by omega)
      by_cases h0 : i > 0
      · rw [if_pos (by omega)]
        by_cases h2 : (s.data.toList.getD i 0).toNat = 0
        · rw [if_pos (by omega), hj, if_pos rfl, if_pos (.inr ⟨h2, h0⟩)]
        · rw [if_neg (by omega), if_neg (by omega), hj, if_neg (by simp)]
          by_cases h3 : (s.data.toList.getD i 0).toNat < 128
          · rw [if_pos h3, if_neg (by omega), if_pos h3]
          · rw [if_neg h3, if_neg (by omega), if_neg h3]
      · rw [if_neg (by omega), if_neg (by omega), hj, if_neg (by simp)]
        by_cases h3 : (s.data.toList.getD i 0).toNat < 128
        · rw [if_pos h3, if_neg (by omega), if_pos h3]
        · rw [if_neg h3, if_neg (by omega), if_neg h3]
theorem reftake_f (s : ByteArray) {k : Nat} (hk : 31 ≤ k) : concourseref01_Take.f k s = some (tkI s.data.toList) := by
  refine at_rounds (concourseref01_Take.mono _) hk ?_
  have := reftake_l0 s 9 30 0 0 rfl (by omega) (by simp) (by omega)
  rw [concourseref01_Take.f, List.drop_zero, fin0] at *
  exact this
theorem kput_f {t w : Int} (t0 : -9223372036854775808 ≤ t) (t1 : t < 9223372036854775808) {k : Nat} (hk : 10 ≤ k) : key_Put.f k t w = some (kput t w) := by
  unfold key_Put.f kput key_tagged.f key_wire_known.f
  by_cases h1 : t ≥ 1
  · rw [if_pos h1]
    simp only [Option.bind_some]
    by_cases h2 : t ≤ 255
    · have hR : ¬ (t < 1 ∨ t > 255) := by omega
      rw [if_pos (decide_eq_true h2)]
      by_cases h3 : w = 0
      · subst h3
        rw [if_pos rfl, if_neg hR, if_pos (.inl rfl)]
        simp only [Option.bind_some, if_true]
        rw [w64 (n := 2 * t) (by omega) (by omega), w64 (by omega) (by omega), u64i (by omega) (by omega), put_f (by omega) (by omega) hk]; rfl
      · rw [if_neg h3, if_neg hR]
        simp only [Option.bind_some]
        by_cases h4 : w = 1
        · subst h4
          rw [if_pos (by rfl), if_pos (.inr rfl), w64 (n := 2 * t) (by omega) (by omega), w64 (by omega) (by omega), u64i (by omega) (by omega), put_f (by omega) (by omega) hk]; rfl
        · rw [if_neg (by simpa using h4), if_neg (by omega)]
    · rw [if_neg (by rw [decide_eq_true_eq]; exact h2), if_pos (by omega)]
  · rw [if_neg h1]
    simp only [Option.bind_some]
    rw [if_neg (by decide), if_pos (by omega)]
theorem ktake_f (s : ByteArray) {k : Nat} (hk : 31 ≤ k) : key_Take.f k s = some (ktake s.data.toList) := by
  have hr := tkI_range s.data.toList
  unfold key_Take.f ktake
  rw [take_f s hk]
  simp only [Option.bind_some]
  by_cases h : (tkI s.data.toList).2.2 = 0
  · rw [if_pos h, if_pos h, Int.tdiv_eq_ediv_of_nonneg hr.1, Int.tmod_eq_emod_of_nonneg hr.1, u64i (by omega) (by omega)]
    by_cases h1 : (tkI s.data.toList).1 < 2 ∨ (tkI s.data.toList).1 > 511
    · rw [if_pos h1]
      by_cases h2 : (tkI s.data.toList).1 / 2 > 255
      · rw [if_pos h2]
      · rw [if_neg h2, if_pos (by omega)]
    · rw [if_neg h1, if_neg (by omega), if_neg (by omega), w64 (by omega) (by omega), w64 (by omega) (by omega)]
  · rw [if_neg h, if_neg h]
theorem refktake_f (s : ByteArray) {k : Nat} (hk : 31 ≤ k) : concourseref04_Take.f k s = some (ktake s.data.toList) := by
  have hr := tkI_range s.data.toList
  unfold concourseref04_Take.f ktake
  rw [reftake_f s hk]
  simp only [Option.bind_some]
  by_cases h : (tkI s.data.toList).2.2 = 0
  · rw [if_pos h, if_pos h, h]
    by_cases h1 : (tkI s.data.toList).1 < 2 ∨ (tkI s.data.toList).1 > 511
    · rw [if_pos h1]
      by_cases h2 : (tkI s.data.toList).1 < 2
      · rw [if_pos h2]
      · rw [if_neg h2, if_pos (by omega)]
    · rw [if_neg h1, if_neg (by omega), if_neg (by omega), w64 (n := (tkI s.data.toList).1) (by omega) (by omega), Int.tdiv_eq_ediv_of_nonneg hr.1, Int.tmod_eq_emod_of_nonneg hr.1, w64 (by omega) (by omega)]
  · rw [if_neg h, if_neg h]
theorem awake_f {k : Nat} (hk : 10 ≤ k) : concourselaw04_awake.f k = some true := by
  unfold concourselaw04_awake.f
  have e : kput 1 1 = (ba (enc 3), 0) := by unfold kput; rw [if_neg (by decide), if_pos (.inr rfl)]; rfl
  rw [kput_f (by decide) (by decide) hk, e]
  simp only [Option.bind_some]
  rw [ba_toList, enc_lt (by decide), if_pos (by decide)]; rfl
theorem stake_f (s : ByteArray) {m : Int} (m0 : -9223372036854775808 ≤ m) (m1 : m < 9223372036854775808) (hs : s.size < 9223372036854775808) {k : Nat} (hk : 31 ≤ k) : span_Take.f k s m = some (stake s.data.toList m) := by
  have hr := tkI_range s.data.toList
  have hl := size_len s
  have hm : 0 ≤ mx m 0 ∧ mx m 0 < 9223372036854775808 := by unfold mx; split <;> omega
  unfold span_Take.f stake
  rw [take_f s hk]
  simp only [Option.bind_some]
  by_cases h : (tkI s.data.toList).2.2 = 0
  · rw [if_pos h, if_pos h, u64i hm.1 (by omega)]
    by_cases h1 : (tkI s.data.toList).1 > mx m 0
    · rw [if_pos h1, if_pos h1]
    · rw [if_neg h1, if_neg h1, w64 (n := (s.size : Int) - (tkI s.data.toList).2.1) (by omega) (by omega), u64i (by omega) (by omega), hl]
      by_cases h2 : (tkI s.data.toList).1 > (s.data.toList.length : Int) - (tkI s.data.toList).2.1
      · rw [if_pos h2, if_pos h2]
      · have he : ∀ a b c : Nat, c = a + b → s.extract a c = ba ((s.data.toList.drop a).take b) := fun a b c hc => ba_ext (by rw [Lib.extract_data, ba_data]; congr 1; omega)
        rw [if_neg h2, if_neg h2, w64 (n := (tkI s.data.toList).1) (by omega) (by omega), w64 (n := (tkI s.data.toList).2.1 + (tkI s.data.toList).1) (by omega) (by omega), if_pos (by omega), if_pos (by omega), if_pos (by omega), he _ (tkI s.data.toList).1.toNat _ (by omega)]
  · rw [if_neg h, if_neg h]
theorem kskip_f (s : ByteArray) (w : Int) (hs : s.size < 9223372036854775808) {k : Nat} (hk : 31 ≤ k) : key_Skip.f k s w = some (kskip s.data.toList w) := by
  have hr := tkI_range s.data.toList
  have hl := size_len s
  unfold key_Skip.f kskip
  by_cases h0 : w = 0
  · rw [if_pos h0, if_pos h0, take_f s hk]; rfl
  · rw [if_neg h0, if_neg h0]
    by_cases h1 : w = 1
    · rw [if_pos h1, if_pos h1, stake_f s (by omega) (by omega) hs hk]
      simp only [Option.bind_some]
      unfold stake
      by_cases h : (tkI s.data.toList).2.2 = 0
      · rw [if_pos h, if_pos h]
        by_cases h2 : (tkI s.data.toList).1 > mx (s.size : Int) 0
        · rw [if_pos h2, if_pos rfl, if_pos (by unfold mx at h2; split at h2 <;> omega)]
        · rw [if_neg h2]
          by_cases h3 : (tkI s.data.toList).1 > (s.data.toList.length : Int) - (tkI s.data.toList).2.1
          · rw [if_pos h3, if_pos h3, if_neg (by decide)]
          · rw [if_neg h3, if_neg h3, if_neg (by simp)]
      · have : (tkI s.data.toList).2.2 ≠ 3 := by omega
        rw [if_neg h, if_neg h, if_neg this]
    · rw [if_neg h1, if_neg h1]
theorem refkskip_f (s : ByteArray) (w : Int) (hs : s.size < 9223372036854775808) {k : Nat} (hk : 31 ≤ k) : concourseref04_Skip.f k s w = some (kskip s.data.toList w) := by
  have hr := tkI_range s.data.toList
  have hl := size_len s
  unfold concourseref04_Skip.f kskip
  by_cases h0 : w = 0
  · rw [if_pos h0, if_pos h0, reftake_f s hk]; rfl
  · rw [if_neg h0, if_neg h0]
    by_cases h1 : w = 1
    · rw [if_pos h1, if_pos h1, reftake_f s hk]
      simp only [Option.bind_some]
      by_cases h : (tkI s.data.toList).2.2 = 0
      · rw [if_pos h, if_pos h, w64 (n := (s.size : Int) - (tkI s.data.toList).2.1) (by omega) (by omega), u64i (by omega) (by omega), hl]
        by_cases h3 : (tkI s.data.toList).1 > (s.data.toList.length : Int) - (tkI s.data.toList).2.1
        · rw [if_pos h3, if_pos h3]
        · rw [if_neg h3, if_neg h3, w64 (n := (tkI s.data.toList).1) (by omega) (by omega), w64 (by omega) (by omega), h]
      · rw [if_neg h, if_neg h]
    · rw [if_neg h1, if_neg h1]
theorem ext_end (s : ByteArray) {a : Int} (h0 : 0 ≤ a) : (s.extract a.toNat s.size).data.toList = s.data.toList.drop a.toNat := by
  rw [Lib.extract_data, List.take_of_length_le (by rw [List.length_drop, size_len]; omega)]
theorem split_l0 (f : Nat) : ∀ (k : Nat) (s : ByteArray) (ts : List Int) (ss : List ByteArray) (last : Int), s.size < 9223372036854775808 → 0 ≤ last → last ≤ 255 → 255 < f + last → ts.length + 0 ≤ last → ss.length = ts.length → f + 40 ≤ k →
    key_Split.l0 k s ts ss last = some (spin ts ss (sp f s.data.toList last)) := by
  induction f with
  | zero => intro k s ts ss last hs h0 h1 h2 h3 h4 hk; omega
  | succ f ih =>
    intro k s ts ss last hs h0 h1 h2 h3 h4 hk
    obtain ⟨k, rfl⟩ : ∃ j, k = j + 1 := ⟨k - 1, by omega⟩
    rw [key_Split.l0]
    simp only [sp]
    rw [ByteArray.toList_eq]
    by_cases hn : s.data.toList = []
    · rw [if_pos hn, if_pos hn]; simp [spin]
    · rw [if_neg hn, if_neg hn, ktake_f s (by omega)]
      simp only [Option.bind_some]
      by_cases he : (ktake s.data.toList).2.2.2 = 0
      · obtain ⟨g1, g2, g3, g4, g5, g6⟩ := ktake_ok he
        have hl := size_len s
        rw [if_pos he, if_pos he]
        by_cases ht : (ktake s.data.toList).1 ≤ last
        · rw [if_pos ht, if_pos ht]; rfl
        · have hx := ext_end s (a := (ktake s.data.toList).2.2.1) (by omega)
          have hxs : (s.extract (ktake s.data.toList).2.2.1.toNat s.size).size = s.size - (ktake s.data.toList).2.2.1.toNat := by rw [size_len, hx, List.length_drop, size_len]
          rw [if_neg ht, if_neg ht, if_pos (by omega), if_pos (by omega), kskip_f _ _ (by omega) (by omega), hx]
          simp only [Option.bind_some]
          obtain ⟨q1, q2⟩ := kskip_range (s.data.toList.drop (ktake s.data.toList).2.2.1.toNat) (ktake s.data.toList).2.1
          rw [List.length_drop] at q2
          generalize (kskip (s.data.toList.drop (ktake s.data.toList).2.2.1.toNat) (ktake s.data.toList).2.1) = q at *
          by_cases hq : q.2 = 0
          · rw [if_pos hq, if_pos hq, w64 (by omega) (by omega)]
            have hy := ext_end s (a := (ktake s.data.toList).2.2.1 + q.1) (by omega)
            have hys : (s.extract ((ktake s.data.toList).2.2.1 + q.1).toNat s.size).size ≤ s.size := by rw [size_len, hy, List.length_drop, size_len]; omega
            have hc : s.extract (ktake s.data.toList).2.2.1.toNat ((ktake s.data.toList).2.2.1 + q.1).toNat = ba ((s.data.toList.drop (ktake s.data.toList).2.2.1.toNat).take q.1.toNat) := ba_ext (by rw [Lib.extract_data, ba_data]; congr 1; omega)
            rw [if_pos (by simp; omega), if_pos (by omega), if_pos (by omega), if_pos (by simp; omega), if_pos (by omega), ih k _ _ _ _ (by omega) (by omega) (by omega) (by omega) (by simp; omega) (by simp; omega) (by omega), hy, hc]
            generalize sp f (s.data.toList.drop ((ktake s.data.toList).2.2.1 + q.1).toNat) (ktake s.data.toList).1 = r
            unfold spin
            by_cases hr : r.2.2 = 0
            · simp [hr]
            · simp [hr]
          · rw [if_neg hq, if_neg hq]; simp [spin, hq]
      · rw [if_neg he, if_neg he]; simp [spin, he]
theorem split_f (s : ByteArray) (hs : s.size < 9223372036854775808) {k : Nat} (hk : 296 ≤ k) : key_Split.f k s = some (sp 256 s.data.toList 0) := by
  unfold key_Split.f
  rw [split_l0 256 k s [] [] 0 hs (by omega) (by omega) (by omega) (by simp) rfl (by omega)]
  unfold spin
  by_cases h : (sp 256 s.data.toList 0).2.2 = 0
  · rw [if_pos h]
    generalize sp 256 s.data.toList 0 = r at *
    obtain ⟨a, b, c⟩ := r
    simp only at h; subst h; rfl
  · rw [if_neg h]
    have := sp_err 256 s.data.toList 0 h
    rw [← this]
theorem refsplit_l0 (f : Nat) (s : ByteArray) (hs : s.size < 9223372036854775808) : ∀ (k : Nat) (at_ : Nat) (ts ws : List Int) (ss : List ByteArray) (last : Int), at_ ≤ s.size → 0 ≤ last → last ≤ 255 → 255 < f + last → (ts = [] ∧ last = 0 ∨ ts ≠ [] ∧ rd ts ((ts.length : Int) - 1) = last) → ts.length ≤ last → ws.length = ts.length → ss.length = ts.length → 3 * f + 40 ≤ k →
    ∃ wv, concourseref04_Split.l0 k s (at_ : Int) ts ws ss = some ((spin ts ss (sp f (s.data.toList.drop at_) last)).1, wv, (spin ts ss (sp f (s.data.toList.drop at_) last)).2.1, (spin ts ss (sp f (s.data.toList.drop at_) last)).2.2) := by
  induction f with
  | zero => intro k at_ ts ws ss last ha h0 h1 h2 h3 h4 h5 h6 hk; omega
  | succ f ih =>
    intro k at_ ts ws ss last ha h0 h1 h2 h3 h4 h5 h6 hk
    obtain ⟨k, rfl⟩ : ∃ j, k = j + 3 := ⟨k - 3, by omega⟩
    rw [concourseref04_Split.l0]
    simp only [sp]
    have hl := size_len s
    by_cases hn : at_ = s.size
    · have : s.data.toList.drop at_ = [] := List.drop_of_length_le (by omega)
      rw [if_neg (by omega), if_pos this]; exact ⟨ws, by simp [spin]⟩
    · have hne : s.data.toList.drop at_ ≠ [] := by
        intro e
        have := congrArg List.length e
        rw [List.length_drop, List.length_nil] at this; omega
      rw [if_pos (by omega), if_pos (by omega), if_pos (by omega), if_neg hne, refktake_f _ (by omega), ext_end s (by omega), Int.toNat_natCast]
      simp only [Option.bind_some]
      by_cases he : (ktake (s.data.toList.drop at_)).2.2.2 = 0
      · obtain ⟨g1, g2, g3, g4, g5, g6⟩ := ktake_ok he
        rw [List.length_drop] at g6
        rw [if_pos he, if_pos he, he]
        have hj : ∀ e : Int, (e = 9 ∧ (ktake (s.data.toList.drop at_)).1 ≤ last ∨ e = 0 ∧ ¬ (ktake (s.data.toList.drop at_)).1 ≤ last) →
            ∃ wv, concourseref04_Split.j2 (k + 1) s at_ (ktake (s.data.toList.drop at_)).1 (ktake (s.data.toList.drop at_)).2.1 (ktake (s.data.toList.drop at_)).2.2.1 e ts ws ss = some ((spin ts ss (sp (f + 1) (s.data.toList.drop at_) last)).1, wv, (spin ts ss (sp (f + 1) (s.data.toList.drop at_) last)).2.1, (spin ts ss (sp (f + 1) (s.data.toList.drop at_) last)).2.2) := by
          intro e hcase
          simp only [concourseref04_Split.j2, sp]
          rw [if_neg hne, if_pos he]
          rcases hcase with ⟨rfl, ht⟩ | ⟨rfl, ht⟩
          · rw [if_neg (by decide), if_pos ht]; exact ⟨[], rfl⟩
          · have hx := ext_end s (a := (at_ : Int) + (ktake (s.data.toList.drop at_)).2.2.1) (by omega)
            have hd : s.data.toList.drop ((at_ : Int) + (ktake (s.data.toList.drop at_)).2.2.1).toNat = (s.data.toList.drop at_).drop (ktake (s.data.toList.drop at_)).2.2.1.toNat := by rw [List.drop_drop]; congr 1; omega
            have hxs : (s.extract ((at_ : Int) + (ktake (s.data.toList.drop at_)).2.2.1).toNat s.size).size ≤ s.size := by rw [size_len, hx, List.length_drop, size_len]; omega
            rw [if_pos rfl, if_neg ht, w64 (n := (at_ : Int) + (ktake (s.data.toList.drop at_)).2.2.1) (by omega) (by omega), if_pos (by omega), if_pos (by omega), refkskip_f _ _ (by omega) (by omega), hx, hd]
            simp only [Option.bind_some]
            obtain ⟨q1, q2⟩ := kskip_range ((s.data.toList.drop at_).drop (ktake (s.data.toList.drop at_)).2.2.1.toNat) (ktake (s.data.toList.drop at_)).2.1
            rw [List.length_drop, List.length_drop] at q2
            generalize (kskip ((s.data.toList.drop at_).drop (ktake (s.data.toList.drop at_)).2.2.1.toNat) (ktake (s.data.toList.drop at_)).2.1) = q at *
            by_cases hq : q.2 = 0
            · rw [if_pos hq, if_pos hq, if_pos (by omega), if_pos (by omega), w64 (n := (ktake (s.data.toList.drop at_)).2.2.1 + q.1) (by omega) (by omega), w64 (n := (at_ : Int) + (ktake (s.data.toList.drop at_)).2.2.1 + q.1) (by omega) (by omega), w64 (by omega) (by omega), if_pos (by omega), if_pos (by omega), if_pos (by omega)]
              have hc : s.extract ((at_ : Int) + (ktake (s.data.toList.drop at_)).2.2.1).toNat ((at_ : Int) + (ktake (s.data.toList.drop at_)).2.2.1 + q.1).toNat = ba (((s.data.toList.drop at_).drop (ktake (s.data.toList.drop at_)).2.2.1.toNat).take q.1.toNat) := ba_ext (by rw [Lib.extract_data, ba_data, ← hd]; congr 1; omega)
              have hat : (at_ : Int) + ((ktake (s.data.toList.drop at_)).2.2.1 + q.1) = ((at_ + ((ktake (s.data.toList.drop at_)).2.2.1 + q.1).toNat : Nat) : Int) := by omega
              rw [hat, hc]
              obtain ⟨wv, hwv⟩ := ih k (at_ + ((ktake (s.data.toList.drop at_)).2.2.1 + q.1).toNat) (ts ++ [(ktake (s.data.toList.drop at_)).1]) (ws ++ [(ktake (s.data.toList.drop at_)).2.1]) (ss ++ [ba (((s.data.toList.drop at_).drop (ktake (s.data.toList.drop at_)).2.2.1.toNat).take q.1.toNat)]) (ktake (s.data.toList.drop at_)).1 (by omega) (by omega) (by omega) (by omega) (.inr ⟨by simp, by simp [rd]⟩) (by simp; omega) (by simp; omega) (by simp; omega) (by omega)
              refine ⟨wv, ?_⟩
              rw [hwv, ← List.drop_drop]
              generalize sp f ((s.data.toList.drop at_).drop ((ktake (s.data.toList.drop at_)).2.2.1 + q.1).toNat) (ktake (s.data.toList.drop at_)).1 = r
              unfold spin
              by_cases hr : r.2.2 = 0
              · simp [hr]
              · simp [hr]
            · rw [if_neg hq, if_neg hq]; exact ⟨[], by simp [spin, hq]⟩
        have hfin := hj
        simp only [sp] at hfin
        rw [if_neg hne, if_pos he] at hfin
        rcases h3 with ⟨rfl, h3⟩ | ⟨h3, h7⟩
        · rw [if_neg (by simp)]
          simp only [concourseref04_Split.j1]
          rw [if_neg (by decide)]
          exact hfin 0 (.inr ⟨rfl, by omega⟩)
        · have hlen : 0 < ts.length := List.length_pos_iff.2 h3
          rw [if_pos (by omega), w64 (by omega) (by omega), if_pos (by omega), if_pos (by omega), h7]
          simp only [concourseref04_Split.j1]
          by_cases ht : (ktake (s.data.toList.drop at_)).1 ≤ last
          · rw [if_pos (decide_eq_true (by omega))]
            exact hfin 9 (.inl ⟨rfl, ht⟩)
          · rw [if_neg (by rw [decide_eq_true_eq]; omega)]
            exact hfin 0 (.inr ⟨rfl, ht⟩)
      · rw [if_neg he, if_neg he]
        simp only [concourseref04_Split.j1]
        rw [if_neg (by decide)]
        simp only [concourseref04_Split.j2]
        rw [if_neg he]
        exact ⟨[], by simp [spin, he]⟩
theorem refsplit_f (s : ByteArray) (hs : s.size < 9223372036854775808) {k : Nat} (hk : 1000 ≤ k) : ∃ wv, concourseref04_Split.f k s = some ((sp 256 s.data.toList 0).1, wv, (sp 256 s.data.toList 0).2.1, (sp 256 s.data.toList 0).2.2) := by
  unfold concourseref04_Split.f
  obtain ⟨wv, h⟩ := refsplit_l0 256 s hs k 0 [] [] [] 0 (by omega) (by omega) (by omega) (by omega) (.inl ⟨rfl, rfl⟩) (by simp) rfl rfl (by omega)
  refine ⟨wv, ?_⟩
  rw [List.drop_zero] at h
  have e : spin [] [] (sp 256 s.data.toList 0) = sp 256 s.data.toList 0 := by
    unfold spin
    by_cases h : (sp 256 s.data.toList 0).2.2 = 0
    · rw [if_pos h]
      generalize sp 256 s.data.toList 0 = r at *
      obtain ⟨a, b, c⟩ := r
      simp only at h; subst h; rfl
    · rw [if_neg h]
      rw [← sp_err 256 s.data.toList 0 h]
  rw [e] at h
  exact h
theorem ints_l0 (d : Nat) (l : List Int) (hl : l.length < 9223372036854775807) : ∀ (k i : Nat), i + d = l.length → d < k → concourseref04_Ints.l0 k l l (i : Int) = some true := by
  induction d with
  | zero =>
    intro k i hi hk
    obtain ⟨k, rfl⟩ : ∃ j, k = j + 1 := ⟨k - 1, by omega⟩
    rw [concourseref04_Ints.l0, if_neg (by omega)]
  | succ d ih =>
    intro k i hi hk
    obtain ⟨k, rfl⟩ : ∃ j, k = j + 1 := ⟨k - 1, by omega⟩
    rw [concourseref04_Ints.l0, if_pos (by omega), if_pos (by omega), if_pos (by omega), if_pos rfl, w64 (by omega) (by omega)]
    exact ih k (i + 1) (by omega) (by omega)
theorem ints_f (l : List Int) (hl : l.length < 9223372036854775807) {k : Nat} (hk : l.length < k) : concourseref04_Ints.f k l l = some true := by
  rw [concourseref04_Ints.f, if_pos rfl]; exact ints_l0 l.length l hl k 0 (by omega) hk
theorem texts_l0 (d : Nat) (l : List ByteArray) (hl : l.length < 9223372036854775807) : ∀ (k i : Nat), i + d = l.length → d < k → concourseref04_Texts.l0 k l l (i : Int) = some true := by
  induction d with
  | zero =>
    intro k i hi hk
    obtain ⟨k, rfl⟩ : ∃ j, k = j + 1 := ⟨k - 1, by omega⟩
    rw [concourseref04_Texts.l0, if_neg (by omega)]
  | succ d ih =>
    intro k i hi hk
    obtain ⟨k, rfl⟩ : ∃ j, k = j + 1 := ⟨k - 1, by omega⟩
    rw [concourseref04_Texts.l0, if_pos (by omega), if_pos (by omega), if_pos (by omega), if_pos rfl, w64 (by omega) (by omega)]
    exact ih k (i + 1) (by omega) (by omega)
theorem texts_f (l : List ByteArray) (hl : l.length < 9223372036854775807) {k : Nat} (hk : l.length < k) : concourseref04_Texts.f k l l = some true := by
  rw [concourseref04_Texts.f, if_pos rfl]; exact texts_l0 l.length l hl k 0 (by omega) hk

theorem KeySplits : concourselaw04_KeySplits.Pure := by
  intro b w hb hw
  refine ⟨1001, ?_⟩
  obtain ⟨wv, hv⟩ := refsplit_f b (by omega) (k := 1001) (by decide)
  obtain ⟨l1, l2⟩ := sp_len 256 b.data.toList 0
  unfold concourselaw04_KeySplits.f
  rw [kskip_f b w (by omega) (by decide), refkskip_f b w (by omega) (by decide), split_f b (by omega) (by decide), hv, awake_f (by decide)]
  simp only [Option.bind_some, if_true]
  rw [ints_f _ (by omega) (by omega)]
  simp only [Option.bind_some, if_true]
  rw [texts_f _ (by omega) (by omega)]
  simp only [Option.bind_some, if_true]

end Go.Proofs.Ytpijeiophibmkaa.Pure
