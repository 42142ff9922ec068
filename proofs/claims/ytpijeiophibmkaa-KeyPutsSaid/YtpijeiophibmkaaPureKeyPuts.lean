/- For all tags, wires and texts: key.Put and key.Take answer as the document's functions do. No conditions. -/
import Derived.Test.YtpijeiophibmkaaPKeyPutsx2
import Derived.Test.YtpijeiophibmkaaKM
namespace Go.Proofs.Ytpijeiophibmkaa.Pure
open Go.RowKit Go.Proofs.Ytpijeiophibmkaa.PKeyPuts Go.Proofs.YtpijeiophibmkaaW.PrintWords Go.Proofs.YtpijeiophibmkaaW.PrintLast Go.Proofs.YtpijeiophibmkaaW.PrintMore Go.Proofs.Ytpijeiophibmkaa.VM
set_option linter.unusedSimpArgs false
set_option linter.unusedVariables false

/-- varint.Put, as a list of bytes. -/
theorem put_l0 (k : Nat) : ∀ (n : Nat) (acc : List Int), n < 128 ^ (k + 1) → acc.length + k < 1000 → varint_Put.l0 (k + 1) (n : Int) acc = some (ba ((acc.map fun n => UInt8.ofNat n.toNat) ++ enc n)) := by
  induction k with
  | zero =>
    intro n acc hn hl
    simp only [varint_Put.l0]
    rw [if_pos (by omega), if_pos (by omega), enc_lt (by omega)]
    simp only [strOfNums, ba, List.map_append, List.map_cons, List.map_nil]
    rw [show ((n : Int) % 256).toNat = n by omega]
  | succ k ih =>
    intro n acc hn hl
    rw [varint_Put.l0]
    by_cases h : n < 128
    · rw [if_pos (by omega), if_pos (by omega), enc_lt h]
      simp only [strOfNums, ba, List.map_append, List.map_cons, List.map_nil]
      rw [show ((n : Int) % 256).toNat = n by omega]
    · rw [if_neg (by omega), if_pos (by omega), or128' (by omega) (by omega), show (n : Int) / 128 = ((n / 128 : Nat) : Int) by omega, ih (n / 128) _ (by rw [Nat.pow_succ] at hn; exact Nat.div_lt_of_lt_mul (by rw [Nat.mul_comm]; exact hn)) (by simp; omega), enc_ge h]
      simp only [List.map_append, List.map_cons, List.map_nil, List.append_assoc, List.cons_append, List.nil_append]
      rw [show ((n : Int) % 256 % 128 + 128).toNat = n % 128 + 128 by omega]
theorem put_f {n : Int} (h0 : 0 ≤ n) (h1 : n < 18446744073709551616) {k : Nat} (hk : 10 ≤ k) : varint_Put.f k n = some (ba (enc n.toNat)) := by
  obtain ⟨m, rfl⟩ := Int.eq_ofNat_of_zero_le h0
  refine at_rounds (varint_Put.mono _) hk ?_
  rw [varint_Put.f, put_l0 9 m [] (by simp only [Nat.reducePow, Nat.reduceAdd]; omega) (by simp)]
  simp
/-- The document's Put. -/
theorem byte_f (n : Int) : concourseref01_Byte.f n = some (ba [UInt8.ofNat (n % 256).toNat]) := rfl
theorem refput_f' (k : Nat) : ∀ (n : Nat), n < 128 ^ (k + 1) → n < 18446744073709551616 → k < 1000 → concourseref01_Put.f (k + 1) (n : Int) = some (ba (enc n)) := by
  induction k with
  | zero =>
    intro n hn h64 hk
    rw [concourseref01_Put.f, if_pos (by omega), byte_f, w64 (by omega) (by omega), enc_lt (by omega)]
    simp only [Option.bind_some]
    rw [show ((n : Int) % 256).toNat = n by omega]
  | succ k ih =>
    intro n hn h64 hk
    rw [concourseref01_Put.f]
    by_cases h : n < 128
    · rw [if_pos (by omega), byte_f, w64 (by omega) (by omega), enc_lt (by omega)]
      simp only [Option.bind_some]
      rw [show ((n : Int) % 256).toNat = n by omega]
    · have hd : n / 128 < 128 ^ (k + 1) := by rw [Nat.pow_succ] at hn; exact Nat.div_lt_of_lt_mul (by rw [Nat.mul_comm]; exact hn)
      have hl := enc_len k (n / 128) hd
      rw [if_neg (by omega), Int.tmod_eq_emod_of_nonneg (by omega), Int.tdiv_eq_ediv_of_nonneg (by omega), w64 (n := (n : Int) % 128) (by omega) (by omega), w64 (by omega) (by omega), byte_f, u64i (by omega) (by omega), show (n : Int) / 128 = ((n / 128 : Nat) : Int) by omega, ih (n / 128) hd (by omega) (by omega)]
      simp only [Option.bind_some]
      rw [if_pos (by rw [ba_size, ba_size]; simp; omega), ba_append, enc_ge h, show (((n : Int) % 128 + 128) % 256).toNat = n % 128 + 128 by omega]
      rfl
theorem refput_f {n : Int} (h0 : 0 ≤ n) (h1 : n < 18446744073709551616) {k : Nat} (hk : 10 ≤ k) : concourseref01_Put.f k n = some (ba (enc n.toNat)) := by
  obtain ⟨m, rfl⟩ := Int.eq_ofNat_of_zero_le h0
  refine at_rounds (g := fun j => concourseref01_Put.f j (m : Int)) (fun j => concourseref01_Put.mono _ _) hk ?_
  exact refput_f' 9 m (by simp only [Nat.reducePow, Nat.reduceAdd]; omega) (by omega) (by omega)
/-- varint.Take. -/
theorem take_j1 (k : Nat) (s : ByteArray) (acc c : Nat) (i : Nat) (m : Int) (b : Bool) (hi : i ≤ 9) :
    varint_Take.j1 (k + 2) s acc i c m i b = if b = true ∨ (c = 0 ∧ i > 0) then some (0, 0, 1)
      else if c < 128 then some (Go.bits .or .u64 acc (shl .u64 (IntKind.u64.wrap (Go.bits .and .u8 c 127)) (wrap64 (7 * (i : Int)))), wrap64 (i + 1), 0)
      else varint_Take.l0 k s (Go.bits .or .u64 acc (shl .u64 (IntKind.u64.wrap (Go.bits .and .u8 c 127)) (wrap64 (7 * (i : Int))))) m (wrap64 (i + 1)) := by
  have hw : 0 ≤ wrap64 (7 * (i : Int)) := by rw [w64 (by omega) (by omega)]; omega
  cases b with
  | true => simp only [varint_Take.j1, varint_Take.j2, if_true, true_or]
  | false =>
    simp only [varint_Take.j1]
    rw [if_neg (by simp)]
    by_cases hc : c = 0
    · rw [if_pos (by omega)]
      simp only [varint_Take.j2]
      by_cases h0 : i > 0
      · rw [if_pos (by simp; omega), if_pos (.inr ⟨hc, h0⟩)]
      · rw [if_neg (by simp; omega), if_pos hw, if_pos (by omega), if_neg (by simp; omega), if_pos (by omega)]
    · rw [if_neg (by omega)]
      simp only [varint_Take.j2]
      rw [if_neg (by simp), if_pos hw]
      by_cases h1 : c < 128
      · rw [if_pos (by omega), if_neg (by simp; omega), if_pos h1]
      · rw [if_neg (by omega), if_neg (by simp; omega), if_neg h1]
theorem take_l0 (s : ByteArray) (d : Nat) : ∀ (k i acc : Nat), i + d = 9 → i ≤ s.size → acc < 128 ^ i → 3 * d + 3 ≤ k →
    varint_Take.l0 (k + 1) s (acc : Int) (mn (s.size : Int) 10) (i : Int) = some (fin i acc (tk i (s.data.toList.drop i))) := by
  induction d with
  | zero =>
    intro k i acc hi hs ha hk
    obtain rfl : i = 9 := by omega
    rw [varint_Take.l0]
    by_cases he : s.size = 9
    · rw [if_neg (by unfold mn; split <;> omega), List.drop_of_length_le (by rw [← size_len]; omega)]; rfl
    · have hl : 9 < s.data.toList.length := by rw [← size_len]; omega
      have hb := (s.data.toList.getD 9 0).toNat_lt
      obtain ⟨k, rfl⟩ : ∃ j, k = j + 2 := ⟨k - 2, by omega⟩
      rw [if_pos (by unfold mn; split <;> omega), if_pos (by omega), if_pos (by omega), if_pos (by omega), bt_getD, fin_step hl, take_j1 k s acc _ 9 _ _ (by omega), show ((9 : Nat) : Int).toNat = 9 from rfl]
      by_cases h1 : (s.data.toList.getD 9 0).toNat > 1
      · rw [if_pos (.inl (decide_eq_true (by omega))), if_pos (.inl ⟨rfl, h1⟩)]
      · by_cases h2 : (s.data.toList.getD 9 0).toNat = 0
        · rw [if_pos (.inr ⟨h2, by omega⟩), if_pos (.inr ⟨h2, by omega⟩)]
        · rw [if_neg (by simp only [decide_eq_true_eq]; omega), if_pos (by omega), if_neg (by omega), if_pos (by omega), and127 (by omega) (by omega), show (((s.data.toList.getD 9 0).toNat : Int) % 128) = (((s.data.toList.getD 9 0).toNat : Nat) : Int) by omega, or_shl ha (by omega) (by simp only [Nat.reducePow]; omega) (by omega), w64 (by omega) (by omega)]
          rfl
  | succ d ih =>
    intro k i acc hi hs ha hk
    rw [varint_Take.l0]
    by_cases he : s.size = i
    · rw [if_neg (by unfold mn; split <;> omega), List.drop_of_length_le (by rw [← size_len]; omega)]; rfl
    · have hl : i < s.data.toList.length := by rw [← size_len]; omega
      have hb := (s.data.toList.getD i 0).toNat_lt
      obtain ⟨k, rfl⟩ : ∃ j, k = j + 3 := ⟨k - 3, by omega⟩
      have hp8 : 128 ^ i ≤ 128 ^ 8 := Nat.pow_le_pow_right (by decide) (by omega)
      rw [if_pos (by unfold mn; split <;> omega), if_pos (by omega), if_pos (by omega), if_neg (by omega), bt_getD, fin_step hl, Int.toNat_natCast, take_j1 (k + 1) s acc _ i _ _ (by omega)]
      by_cases h2 : (s.data.toList.getD i 0).toNat = 0 ∧ i > 0
      · rw [if_pos (.inr h2), if_pos (.inr h2)]
      · rw [if_neg (by simp only [Bool.false_eq_true, false_or]; exact h2)]
        have hm : Go.bits .and .u8 (((s.data.toList.getD i 0).toNat : Nat) : Int) 127 = (((s.data.toList.getD i 0).toNat % 128 : Nat) : Int) := by rw [and127 (by omega) (by omega)]; omega
        have hq : (s.data.toList.getD i 0).toNat % 128 * 128 ^ i ≤ 127 * 128 ^ i := Nat.mul_le_mul_right _ (by omega)
        rw [hm, or_shl ha (by omega) (by simp only [Nat.reducePow] at hp8; omega) (by omega), w64 (by omega) (by omega)]
        by_cases h3 : (s.data.toList.getD i 0).toNat < 128
        · rw [if_pos h3, if_neg (by omega), if_pos h3, Nat.mod_eq_of_lt h3]; simp
        · rw [if_neg h3, if_neg (by omega), if_neg h3, show (s.data.toList.getD i 0).toNat % 128 = (s.data.toList.getD i 0).toNat - 128 by omega]
          exact ih k (i + 1) _ (by omega) (by omega) (by rw [Nat.pow_succ]; have : ((s.data.toList.getD i 0).toNat - 128) * 128 ^ i ≤ 127 * 128 ^ i := Nat.mul_le_mul_right _ (by omega); omega) (by omega)
theorem take_f (s : ByteArray) {k : Nat} (hk : 31 ≤ k) : varint_Take.f k s = some (tkI s.data.toList) := by
  refine at_rounds (varint_Take.mono _) hk ?_
  rw [varint_Take.f, show (0 : Int) = ((0 : Nat) : Int) from rfl, take_l0 s 9 30 0 0 rfl (by omega) (by simp) (by omega), List.drop_zero, fin0]
/-- The document's Take. -/
theorem reftake_l0 (s : ByteArray) (d : Nat) : ∀ (k i acc : Nat), i + d = 9 → i ≤ s.size → acc < 128 ^ i → 3 * d + 3 ≤ k →
    concourseref01_Take.l0 (k + 1) s (acc : Int) ((128 ^ i : Nat) : Int) (i : Int) = some (fin i acc (tk i (s.data.toList.drop i))) := by
  induction d with
  | zero =>
    intro k i acc hi hs ha hk
    obtain rfl : i = 9 := by omega
    obtain ⟨k, rfl⟩ : ∃ j, k = j + 2 := ⟨k - 2, by omega⟩
    rw [concourseref01_Take.l0]
    by_cases he : s.size = 9
    · rw [if_neg (by omega), List.drop_of_length_le (by rw [← size_len]; omega)]
      simp only [concourseref01_Take.j1]; rfl
    · have hl : 9 < s.data.toList.length := by rw [← size_len]; omega
      have hb := (s.data.toList.getD 9 0).toNat_lt
      rw [if_pos (by omega), fin_step hl]
      simp only [concourseref01_Take.j1]
      rw [if_pos (by simp), if_pos (by omega), if_pos (by omega), if_pos (by omega), bt_getD, show ((9 : Nat) : Int).toNat = 9 from rfl, u64i (by omega) (by omega)]
      by_cases h2 : (s.data.toList.getD 9 0).toNat = 0
      · rw [if_pos (by omega), if_pos (.inr ⟨h2, by omega⟩)]
        simp only [concourseref01_Take.j2, if_true]
      · rw [if_neg (by omega), if_pos (by rfl)]
        by_cases h1 : (s.data.toList.getD 9 0).toNat > 1
        · rw [if_pos (.inl ⟨by trivial, h1⟩)]
          simp only [concourseref01_Take.j2]
          rw [if_pos (decide_eq_true (by omega))]
        · rw [if_neg (by omega), if_pos (by omega)]
          simp only [concourseref01_Take.j2]
          rw [if_neg (by rw [decide_eq_true_eq]; omega), if_pos (by omega), Int.tmod_eq_emod_of_nonneg (by omega), show (((s.data.toList.getD 9 0).toNat : Int) % 128) = (((s.data.toList.getD 9 0).toNat : Nat) : Int) by omega]
          simp only [Nat.reducePow] at ha ⊢
          rw [u64i (n := ((s.data.toList.getD 9 0).toNat : Int) * ((9223372036854775808 : Nat) : Int)) (by omega) (by omega), u64i (by omega) (by omega), w64 (by omega) (by omega)]
          congr 2
  | succ d ih =>
    intro k i acc hi hs ha hk
    obtain ⟨k, rfl⟩ : ∃ j, k = j + 3 := ⟨k - 3, by omega⟩
    rw [concourseref01_Take.l0]
    by_cases he : s.size = i
    · rw [if_neg (by omega), List.drop_of_length_le (by rw [← size_len]; omega)]
      simp only [concourseref01_Take.j1]; rfl
    · have hl : i < s.data.toList.length := by rw [← size_len]; omega
      have hb := (s.data.toList.getD i 0).toNat_lt
      have hp8 : 128 ^ i ≤ 128 ^ 8 := Nat.pow_le_pow_right (by decide) (by omega)
      have hp0 : 0 < 128 ^ i := Nat.pow_pos (by decide)
      have hq : (s.data.toList.getD i 0).toNat % 128 * 128 ^ i ≤ 127 * 128 ^ i := Nat.mul_le_mul_right _ (by omega)
      rw [if_pos (by omega), fin_step hl]
      simp only [concourseref01_Take.j1]
      rw [if_pos (by simp; omega), if_pos (by omega), if_pos (by omega), bt_getD, Int.toNat_natCast, u64i (by omega) (by omega)]
      have hj : ∀ b : Bool, concourseref01_Take.j2 (k + 1 + 1) s acc ((128 ^ i : Nat) : Int) i ((s.data.toList.getD i 0).toNat : Int) b = if b = true then some (0, 0, 1)
          else if (s.data.toList.getD i 0).toNat < 128 then some ((((acc + (s.data.toList.getD i 0).toNat * 128 ^ i : Nat) : Int), ((i + 1 : Nat) : Int), 0))
          else some (fin (i + 1) (acc + ((s.data.toList.getD i 0).toNat - 128) * 128 ^ i) (tk (i + 1) (s.data.toList.drop (i + 1)))) := by
        intro b
        simp only [concourseref01_Take.j2]
        by_cases hbt : b = true
        · rw [if_pos hbt, if_pos hbt]
        · rw [if_neg hbt, if_neg hbt, Int.tmod_eq_emod_of_nonneg (by omega), show (((s.data.toList.getD i 0).toNat : Int) % 128) = (((s.data.toList.getD i 0).toNat % 128 : Nat) : Int) by omega,
            show ((((s.data.toList.getD i 0).toNat % 128 : Nat) : Int) * ((128 ^ i : Nat) : Int)) = (((s.data.toList.getD i 0).toNat % 128 * 128 ^ i : Nat) : Int) from (Int.natCast_mul _ _).symm]
          simp only [Nat.reducePow] at hp8
          rw [u64i (n := (((s.data.toList.getD i 0).toNat % 128 * 128 ^ i : Nat) : Int)) (by omega) (by omega), ← Int.natCast_add, u64i (by omega) (by omega), w64 (by omega) (by omega)]
          by_cases h3 : (s.data.toList.getD i 0).toNat < 128
          · rw [if_pos (by omega), if_pos h3, Nat.mod_eq_of_lt h3]; rfl
          · rw [if_neg (by omega), if_neg h3, show (s.data.toList.getD i 0).toNat % 128 = (s.data.toList.getD i 0).toNat - 128 by omega, u64i (by omega) (by omega),
              show ((128 ^ i : Nat) : Int) * 128 = ((128 ^ (i + 1) : Nat) : Int) by rw [Nat.pow_succ, Int.natCast_mul]; rfl]
            exact ih k (i + 1) _ (by omega) (by omega) (by rw [Nat.pow_succ]; have : ((s.data.toList.getD i 0).toNat - 128) * 128 ^ i ≤ 127 * 128 ^ i := Nat.mul_le_mul_right _ (by omega); omega) (by omega)
      by_cases h0 : i > 0
      · rw [if_pos (by omega)]
        by_cases h2 : (s.data.toList.getD i 0).toNat = 0
        · rw [if_pos (by omega), hj, if_pos rfl, if_pos (.inr ⟨h2, h0⟩)]
        · rw [if_neg (by omega), if_neg (by omega), hj, if_neg (by simp)]
          by_cases h3 : (s.data.toList.getD i 0).toNat < 128
          · rw [if_pos h3, if_neg (by omega), if_pos h3]
          · rw [if_neg h3, if_neg (by omega), if_neg h3]
      · rw [if_neg (by omega), if_neg (by omega), hj, if_neg (by simp)]
        by_cases h3 : (s.data.toList.getD i 0).toNat < 128
        · rw [if_pos h3, if_neg (by omega), if_pos h3]
        · rw [if_neg h3, if_neg (by omega), if_neg h3]
theorem reftake_f (s : ByteArray) {k : Nat} (hk : 31 ≤ k) : concourseref01_Take.f k s = some (tkI s.data.toList) := by
  refine at_rounds (concourseref01_Take.mono _) hk ?_
  have := reftake_l0 s 9 30 0 0 rfl (by omega) (by simp) (by omega)
  rw [concourseref01_Take.f, List.drop_zero, fin0] at *
  exact this
theorem kput_f {t w : Int} (t0 : -9223372036854775808 ≤ t) (t1 : t < 9223372036854775808) {k : Nat} (hk : 10 ≤ k) : key_Put.f k t w = some (kput t w) := by
  unfold key_Put.f kput key_tagged.f key_wire_known.f
  by_cases h1 : t ≥ 1
  · rw [if_pos h1]
    simp only [Option.bind_some]
    by_cases h2 : t ≤ 255
    · have hR : ¬ (t < 1 ∨ t > 255) := by omega
      rw [if_pos (decide_eq_true h2)]
      by_cases h3 : w = 0
      · subst h3
        rw [if_pos rfl, if_neg hR, if_pos (.inl rfl)]
        simp only [Option.bind_some, if_true]
        rw [w64 (n := 2 * t) (by omega) (by omega), w64 (by omega) (by omega), u64i (by omega) (by omega), put_f (by omega) (by omega) hk]; rfl
      · rw [if_neg h3, if_neg hR]
        simp only [Option.bind_some]
        by_cases h4 : w = 1
        · subst h4
          rw [if_pos (by rfl), if_pos (.inr rfl), w64 (n := 2 * t) (by omega) (by omega), w64 (by omega) (by omega), u64i (by omega) (by omega), put_f (by omega) (by omega) hk]; rfl
        · rw [if_neg (by simpa using h4), if_neg (by omega)]
    · rw [if_neg (by rw [decide_eq_true_eq]; exact h2), if_pos (by omega)]
  · rw [if_neg h1]
    simp only [Option.bind_some]
    rw [if_neg (by decide), if_pos (by omega)]
theorem refkput_f {t w : Int} (t0 : -9223372036854775808 ≤ t) (t1 : t < 9223372036854775808) {k : Nat} (hk : 12 ≤ k) : concourseref04_Put.f k t w = some (kput t w) := by
  obtain ⟨k, rfl⟩ : ∃ j, k = j + 1 := ⟨k - 1, by omega⟩
  unfold concourseref04_Put.f kput
  by_cases h1 : t < 1
  · rw [if_pos h1, if_pos (.inl h1)]; rfl
  · rw [if_neg h1]
    simp only [concourseref04_Put.j0]
    by_cases h2 : t > 255
    · rw [if_pos (decide_eq_true h2), if_pos (by omega)]
    · rw [if_neg (by rw [decide_eq_true_eq]; exact h2), if_neg (by omega : ¬ (t < 1 ∨ t > 255))]
      by_cases h3 : w = 0
      · subst h3
        rw [if_pos rfl, if_pos (.inl rfl), w64 (n := 2 * t) (by omega) (by omega), w64 (by omega) (by omega), u64i (by omega) (by omega), refput_f (by omega) (by omega) (by omega)]; rfl
      · rw [if_neg h3]
        by_cases h4 : w = 1
        · subst h4
          rw [if_pos rfl, if_pos (.inr rfl), w64 (n := 2 * t) (by omega) (by omega), w64 (by omega) (by omega), u64i (by omega) (by omega), refput_f (by omega) (by omega) (by omega)]; rfl
        · rw [if_neg h4, if_neg (by omega)]
theorem ktake_f (s : ByteArray) {k : Nat} (hk : 31 ≤ k) : key_Take.f k s = some (ktake s.data.toList) := by
  have hr := tkI_range s.data.toList
  unfold key_Take.f ktake
  rw [take_f s hk]
  simp only [Option.bind_some]
  by_cases h : (tkI s.data.toList).2.2 = 0
  · rw [if_pos h, if_pos h, Int.tdiv_eq_ediv_of_nonneg hr.1, Int.tmod_eq_emod_of_nonneg hr.1, u64i (by omega) (by omega)]
    by_cases h1 : (tkI s.data.toList).1 < 2 ∨ (tkI s.data.toList).1 > 511
    · rw [if_pos h1]
      by_cases h2 : (tkI s.data.toList).1 / 2 > 255
      · rw [if_pos h2]
      · rw [if_neg h2, if_pos (by omega)]
    · rw [if_neg h1, if_neg (by omega), if_neg (by omega), w64 (by omega) (by omega), w64 (by omega) (by omega)]
  · rw [if_neg h, if_neg h]
theorem refktake_f (s : ByteArray) {k : Nat} (hk : 31 ≤ k) : concourseref04_Take.f k s = some (ktake s.data.toList) := by
  have hr := tkI_range s.data.toList
  unfold concourseref04_Take.f ktake
  rw [reftake_f s hk]
  simp only [Option.bind_some]
  by_cases h : (tkI s.data.toList).2.2 = 0
  · rw [if_pos h, if_pos h, h]
    by_cases h1 : (tkI s.data.toList).1 < 2 ∨ (tkI s.data.toList).1 > 511
    · rw [if_pos h1]
      by_cases h2 : (tkI s.data.toList).1 < 2
      · rw [if_pos h2]
      · rw [if_neg h2, if_pos (by omega)]
    · rw [if_neg h1, if_neg (by omega), if_neg (by omega), w64 (n := (tkI s.data.toList).1) (by omega) (by omega), Int.tdiv_eq_ediv_of_nonneg hr.1, Int.tmod_eq_emod_of_nonneg hr.1, w64 (by omega) (by omega)]
  · rw [if_neg h, if_neg h]
theorem awake_f {k : Nat} (hk : 10 ≤ k) : concourselaw04_awake.f k = some true := by
  unfold concourselaw04_awake.f
  have e : kput 1 1 = (ba (enc 3), 0) := by unfold kput; rw [if_neg (by decide), if_pos (.inr rfl)]; rfl
  rw [kput_f (by decide) (by decide) hk, e]
  simp only [Option.bind_some]
  rw [ba_toList, enc_lt (by decide), if_pos (by decide)]; rfl

theorem KeyPuts : concourselaw04_KeyPuts.Pure := by
  intro t w b ht hw hb
  obtain ⟨t0, t1⟩ := wf_i64 ht
  refine ⟨60, ?_⟩
  unfold concourselaw04_KeyPuts.f
  rw [kput_f t0 t1 (by decide), refkput_f t0 t1 (by decide), ktake_f b (by decide), refktake_f b (by decide), awake_f (by decide)]
  simp only [Option.bind_some, if_true]

end Go.Proofs.Ytpijeiophibmkaa.Pure
