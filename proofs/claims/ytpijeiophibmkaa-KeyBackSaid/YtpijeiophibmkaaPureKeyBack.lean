/- For all tags and texts (up to 300): what key.Join joins key.Split splits into the same tags and the spans of the same texts. Conditions: none but that each text has at most 140737488351232 bytes, which the row gives. -/
import Derived.Test.YtpijeiophibmkaaPKeyBackx4
import Derived.Test.YtpijeiophibmkaaKM
namespace Go.Proofs.Ytpijeiophibmkaa.Pure
open Go.RowKit Go.Proofs.Ytpijeiophibmkaa.PKeyBack Go.Proofs.YtpijeiophibmkaaW.PrintWords Go.Proofs.YtpijeiophibmkaaW.PrintLast Go.Proofs.YtpijeiophibmkaaW.PrintMore Go.Proofs.Ytpijeiophibmkaa.VM
set_option linter.unusedSimpArgs false
set_option linter.unusedVariables false

/-- varint.Put, as a list of bytes. -/
theorem put_l0 (k : Nat) : ∀ (n : Nat) (acc : List Int), n < 128 ^ (k + 1) → acc.length + k < 1000 → varint_Put.l0 (k + 1) (n : Int) acc = some (ba ((acc.map fun n => UInt8.ofNat n.toNat) ++ enc n)) := by
  induction k with
  | zero =>
    intro n acc hn hl
    simp only [varint_Put.l0]
    rw [if_pos (by omega), if_pos (by omega), enc_lt (by omega)]
    simp only [strOfNums, ba, List.map_append, List.map_cons, List.map_nil]
    rw [show ((n : Int) % 256).toNat = n by omega]
  | succ k ih =>
    intro n acc hn hl
    rw [varint_Put.l0]
    by_cases h : n < 128
    · rw [if_pos (by omega), if_pos (by omega), enc_lt h]
      simp only [strOfNums, ba, List.map_append, List.map_cons, List.map_nil]
      rw [show ((n : Int) % 256).toNat = n by omega]
    · rw [if_neg (by omega), if_pos (by omega), or128' (by omega) (by omega), show (n : Int) / 128 = ((n / 128 : Nat) : Int) by omega, ih (n / 128) _ (by rw [Nat.pow_succ] at hn; exact Nat.div_lt_of_lt_mul (by rw [Nat.mul_comm]; exact hn)) (by simp; omega), enc_ge h]
      simp only [List.map_append, List.map_cons, List.map_nil, List.append_assoc, List.cons_append, List.nil_append]
      rw [show ((n : Int) % 256 % 128 + 128).toNat = n % 128 + 128 by omega]
theorem put_f {n : Int} (h0 : 0 ≤ n) (h1 : n < 18446744073709551616) {k : Nat} (hk : 10 ≤ k) : varint_Put.f k n = some (ba (enc n.toNat)) := by
  obtain ⟨m, rfl⟩ := Int.eq_ofNat_of_zero_le h0
  refine at_rounds (varint_Put.mono _) hk ?_
  rw [varint_Put.f, put_l0 9 m [] (by simp only [Nat.reducePow, Nat.reduceAdd]; omega) (by simp)]
  simp
/-- varint.Take. -/
theorem take_j1 (k : Nat) (s : ByteArray) (acc c : Nat) (i : Nat) (m : Int) (b : Bool) (hi : i ≤ 9) :
    varint_Take.j1 (k + 2) s acc i c m i b = if b = true ∨ (c = 0 ∧ i > 0) then some (0, 0, 1)
      else if c < 128 then some (Go.bits .or .u64 acc (shl .u64 (IntKind.u64.wrap (Go.bits .and .u8 c 127)) (wrap64 (7 * (i : Int)))), wrap64 (i + 1), 0)
      else varint_Take.l0 k s (Go.bits .or .u64 acc (shl .u64 (IntKind.u64.wrap (Go.bits .and .u8 c 127)) (wrap64 (7 * (i : Int))))) m (wrap64 (i + 1)) := by
  have hw : 0 ≤ wrap64 (7 * (i : Int)) := by rw [w64 (by omega) (by omega)]; omega
  cases b with
  | true => simp only [varint_Take.j1, varint_Take.j2, if_true, true_or]
  | false =>
    simp only [varint_Take.j1]
    rw [if_neg (by simp)]
    by_cases hc : c = 0
    · rw [if_pos (by omega)]
      simp only [varint_Take.j2]
      by_cases h0 : i > 0
      · rw [if_pos (by simp; omega), if_pos (.inr ⟨hc, h0⟩)]
      · rw [if_neg (by simp; omega), if_pos hw, if_pos (by omega), if_neg (by simp; omega), if_pos (by omega)]
    · rw [if_neg (by omega)]
      simp only [varint_Take.j2]
      rw [if_neg (by simp), if_pos hw]
      by_cases h1 : c < 128
      · rw [if_pos (by omega), if_neg (by simp; omega), if_pos h1]
      · rw [if_neg (by omega), if_neg (by simp; omega), if_neg h1]
theorem take_l0 (s : ByteArray) (d : Nat) : ∀ (k i acc : Nat), i + d = 9 → i ≤ s.size → acc < 128 ^ i → 3 * d + 3 ≤ k →
    varint_Take.l0 (k + 1) s (acc : Int) (mn (s.size : Int) 10) (i : Int) = some (fin i acc (tk i (s.data.toList.drop i))) := by
  induction d with
  | zero =>
    intro k i acc hi hs ha hk
    obtain rfl : i = 9 := by omega
    rw [varint_Take.l0]
    by_cases he : s.size = 9
    · rw [if_neg (by unfold mn; split <;> omega), List.drop_of_length_le (by rw [← size_len]; omega)]; rfl
    · have hl : 9 < s.data.toList.length := by rw [← size_len]; omega
      have hb := (s.data.toList.getD 9 0).toNat_lt
      obtain ⟨k, rfl⟩ : ∃ j, k = j + 2 := ⟨k - 2, by omega⟩
      rw [if_pos (by unfold mn; split <;> omega), if_pos (by omega), if_pos (by omega), if_pos (by omega), bt_getD, fin_step hl, take_j1 k s acc _ 9 _ _ (by omega), show ((9 : Nat) : Int).toNat = 9 from rfl]
      by_cases h1 : (s.data.toList.getD 9 0).toNat > 1
      · rw [if_pos (.inl (decide_eq_true (by omega))), if_pos (.inl ⟨rfl, h1⟩)]
      · by_cases h2 : (s.data.toList.getD 9 0).toNat = 0
        · rw [if_pos (.inr ⟨h2, by omega⟩), if_pos (.inr ⟨h2, by omega⟩)]
        · rw [if_neg (by simp only [decide_eq_true_eq]; omega), if_pos (by omega), if_neg (by omega), if_pos (by omega), and127 (by omega) (by omega), show (((s.data.toList.getD 9 0).toNat : Int) % 128) = (((s.data.toList.getD 9 0).toNat : Nat) : Int) by omega, or_shl ha (by omega) (by simp only [Nat.reducePow]; omega) (by omega), w64 (by omega) (by omega)]
          rfl
  | succ d ih =>
    intro k i acc hi hs ha hk
    rw [varint_Take.l0]
    by_cases he : s.size = i
    · rw [if_neg (by unfold mn; split <;> omega), List.drop_of_length_le (by rw [← size_len]; omega)]; rfl
    · have hl : i < s.data.toList.length := by rw [← size_len]; omega
      have hb := (s.data.toList.getD i 0).toNat_lt
      obtain ⟨k, rfl⟩ : ∃ j, k = j + 3 := ⟨k - 3, by omega⟩
      have hp8 : 128 ^ i ≤ 128 ^ 8 := Nat.pow_le_pow_right (by decide) (by omega)
      rw [if_pos (by unfold mn; split <;> omega), if_pos (by omega), if_pos (by omega), if_neg (by omega), bt_getD, fin_step hl, Int.toNat_natCast, take_j1 (k + 1) s acc _ i _ _ (by omega)]
      by_cases h2 : (s.data.toList.getD i 0).toNat = 0 ∧ i > 0
      · rw [if_pos (.inr h2), if_pos (.inr h2)]
      · rw [if_neg (by simp only [Bool.false_eq_true, false_or]; exact h2)]
        have hm : Go.bits .and .u8 (((s.data.toList.getD i 0).toNat : Nat) : Int) 127 = (((s.data.toList.getD i 0).toNat % 128 : Nat) : Int) := by rw [and127 (by omega) (by omega)]; omega
        have hq : (s.data.toList.getD i 0).toNat % 128 * 128 ^ i ≤ 127 * 128 ^ i := Nat.mul_le_mul_right _ (by omega)
        rw [hm, or_shl ha (by omega) (by simp only [Nat.reducePow] at hp8; omega) (by omega), w64 (by omega) (by omega)]
        by_cases h3 : (s.data.toList.getD i 0).toNat < 128
        · rw [if_pos h3, if_neg (by omega), if_pos h3, Nat.mod_eq_of_lt h3]; simp
        · rw [if_neg h3, if_neg (by omega), if_neg h3, show (s.data.toList.getD i 0).toNat % 128 = (s.data.toList.getD i 0).toNat - 128 by omega]
          exact ih k (i + 1) _ (by omega) (by omega) (by rw [Nat.pow_succ]; have : ((s.data.toList.getD i 0).toNat - 128) * 128 ^ i ≤ 127 * 128 ^ i := Nat.mul_le_mul_right _ (by omega); omega) (by omega)
theorem take_f (s : ByteArray) {k : Nat} (hk : 31 ≤ k) : varint_Take.f k s = some (tkI s.data.toList) := by
  refine at_rounds (varint_Take.mono _) hk ?_
  rw [varint_Take.f, show (0 : Int) = ((0 : Nat) : Int) from rfl, take_l0 s 9 30 0 0 rfl (by omega) (by simp) (by omega), List.drop_zero, fin0]
theorem kput_f {t w : Int} (t0 : -9223372036854775808 ≤ t) (t1 : t < 9223372036854775808) {k : Nat} (hk : 10 ≤ k) : key_Put.f k t w = some (kput t w) := by
  unfold key_Put.f kput key_tagged.f key_wire_known.f
  by_cases h1 : t ≥ 1
  · rw [if_pos h1]
    simp only [Option.bind_some]
    by_cases h2 : t ≤ 255
    · have hR : ¬ (t < 1 ∨ t > 255) := by omega
      rw [if_pos (decide_eq_true h2)]
      by_cases h3 : w = 0
      · subst h3
        rw [if_pos rfl, if_neg hR, if_pos (.inl rfl)]
        simp only [Option.bind_some, if_true]
        rw [w64 (n := 2 * t) (by omega) (by omega), w64 (by omega) (by omega), u64i (by omega) (by omega), put_f (by omega) (by omega) hk]; rfl
      · rw [if_neg h3, if_neg hR]
        simp only [Option.bind_some]
        by_cases h4 : w = 1
        · subst h4
          rw [if_pos (by rfl), if_pos (.inr rfl), w64 (n := 2 * t) (by omega) (by omega), w64 (by omega) (by omega), u64i (by omega) (by omega), put_f (by omega) (by omega) hk]; rfl
        · rw [if_neg (by simpa using h4), if_neg (by omega)]
    · rw [if_neg (by rw [decide_eq_true_eq]; exact h2), if_pos (by omega)]
  · rw [if_neg h1]
    simp only [Option.bind_some]
    rw [if_neg (by decide), if_pos (by omega)]
theorem ktake_f (s : ByteArray) {k : Nat} (hk : 31 ≤ k) : key_Take.f k s = some (ktake s.data.toList) := by
  have hr := tkI_range s.data.toList
  unfold key_Take.f ktake
  rw [take_f s hk]
  simp only [Option.bind_some]
  by_cases h : (tkI s.data.toList).2.2 = 0
  · rw [if_pos h, if_pos h, Int.tdiv_eq_ediv_of_nonneg hr.1, Int.tmod_eq_emod_of_nonneg hr.1, u64i (by omega) (by omega)]
    by_cases h1 : (tkI s.data.toList).1 < 2 ∨ (tkI s.data.toList).1 > 511
    · rw [if_pos h1]
      by_cases h2 : (tkI s.data.toList).1 / 2 > 255
      · rw [if_pos h2]
      · rw [if_neg h2, if_pos (by omega)]
    · rw [if_neg h1, if_neg (by omega), if_neg (by omega), w64 (by omega) (by omega), w64 (by omega) (by omega)]
  · rw [if_neg h, if_neg h]
theorem awake_f {k : Nat} (hk : 10 ≤ k) : concourselaw04_awake.f k = some true := by
  unfold concourselaw04_awake.f
  have e : kput 1 1 = (ba (enc 3), 0) := by unfold kput; rw [if_neg (by decide), if_pos (.inr rfl)]; rfl
  rw [kput_f (by decide) (by decide) hk, e]
  simp only [Option.bind_some]
  rw [ba_toList, enc_lt (by decide), if_pos (by decide)]; rfl
theorem stake_f (s : ByteArray) {m : Int} (m0 : -9223372036854775808 ≤ m) (m1 : m < 9223372036854775808) (hs : s.size < 9223372036854775808) {k : Nat} (hk : 31 ≤ k) : span_Take.f k s m = some (stake s.data.toList m) := by
  have hr := tkI_range s.data.toList
  have hl := size_len s
  have hm : 0 ≤ mx m 0 ∧ mx m 0 < 9223372036854775808 := by unfold mx; split <;> omega
  unfold span_Take.f stake
  rw [take_f s hk]
  simp only [Option.bind_some]
  by_cases h : (tkI s.data.toList).2.2 = 0
  · rw [if_pos h, if_pos h, u64i hm.1 (by omega)]
    by_cases h1 : (tkI s.data.toList).1 > mx m 0
    · rw [if_pos h1, if_pos h1]
    · rw [if_neg h1, if_neg h1, w64 (n := (s.size : Int) - (tkI s.data.toList).2.1) (by omega) (by omega), u64i (by omega) (by omega), hl]
      by_cases h2 : (tkI s.data.toList).1 > (s.data.toList.length : Int) - (tkI s.data.toList).2.1
      · rw [if_pos h2, if_pos h2]
      · have he : ∀ a b c : Nat, c = a + b → s.extract a c = ba ((s.data.toList.drop a).take b) := fun a b c hc => ba_ext (by rw [Lib.extract_data, ba_data]; congr 1; omega)
        rw [if_neg h2, if_neg h2, w64 (n := (tkI s.data.toList).1) (by omega) (by omega), w64 (n := (tkI s.data.toList).2.1 + (tkI s.data.toList).1) (by omega) (by omega), if_pos (by omega), if_pos (by omega), if_pos (by omega), he _ (tkI s.data.toList).1.toNat _ (by omega)]
  · rw [if_neg h, if_neg h]
theorem kskip_f (s : ByteArray) (w : Int) (hs : s.size < 9223372036854775808) {k : Nat} (hk : 31 ≤ k) : key_Skip.f k s w = some (kskip s.data.toList w) := by
  have hr := tkI_range s.data.toList
  have hl := size_len s
  unfold key_Skip.f kskip
  by_cases h0 : w = 0
  · rw [if_pos h0, if_pos h0, take_f s hk]; rfl
  · rw [if_neg h0, if_neg h0]
    by_cases h1 : w = 1
    · rw [if_pos h1, if_pos h1, stake_f s (by omega) (by omega) hs hk]
      simp only [Option.bind_some]
      unfold stake
      by_cases h : (tkI s.data.toList).2.2 = 0
      · rw [if_pos h, if_pos h]
        by_cases h2 : (tkI s.data.toList).1 > mx (s.size : Int) 0
        · rw [if_pos h2, if_pos rfl, if_pos (by unfold mx at h2; split at h2 <;> omega)]
        · rw [if_neg h2]
          by_cases h3 : (tkI s.data.toList).1 > (s.data.toList.length : Int) - (tkI s.data.toList).2.1
          · rw [if_pos h3, if_pos h3, if_neg (by decide)]
          · rw [if_neg h3, if_neg h3, if_neg (by simp)]
      · have : (tkI s.data.toList).2.2 ≠ 3 := by omega
        rw [if_neg h, if_neg h, if_neg this]
    · rw [if_neg h1, if_neg h1]
theorem ext_end (s : ByteArray) {a : Int} (h0 : 0 ≤ a) : (s.extract a.toNat s.size).data.toList = s.data.toList.drop a.toNat := by
  rw [Lib.extract_data, List.take_of_length_le (by rw [List.length_drop, size_len]; omega)]
theorem split_l0 (f : Nat) : ∀ (k : Nat) (s : ByteArray) (ts : List Int) (ss : List ByteArray) (last : Int), s.size < 9223372036854775808 → 0 ≤ last → last ≤ 255 → 255 < f + last → ts.length + 0 ≤ last → ss.length = ts.length → f + 40 ≤ k →
    key_Split.l0 k s ts ss last = some (spin ts ss (sp f s.data.toList last)) := by
  induction f with
  | zero => intro k s ts ss last hs h0 h1 h2 h3 h4 hk; omega
  | succ f ih =>
    intro k s ts ss last hs h0 h1 h2 h3 h4 hk
    obtain ⟨k, rfl⟩ : ∃ j, k = j + 1 := ⟨k - 1, by omega⟩
    rw [key_Split.l0]
    simp only [sp]
    rw [ByteArray.toList_eq]
    by_cases hn : s.data.toList = []
    · rw [if_pos hn, if_pos hn]; simp [spin]
    · rw [if_neg hn, if_neg hn, ktake_f s (by omega)]
      simp only [Option.bind_some]
      by_cases he : (ktake s.data.toList).2.2.2 = 0
      · obtain ⟨g1, g2, g3, g4, g5, g6⟩ := ktake_ok he
        have hl := size_len s
        rw [if_pos he, if_pos he]
        by_cases ht : (ktake s.data.toList).1 ≤ last
        · rw [if_pos ht, if_pos ht]; rfl
        · have hx := ext_end s (a := (ktake s.data.toList).2.2.1) (by omega)
          have hxs : (s.extract (ktake s.data.toList).2.2.1.toNat s.size).size = s.size - (ktake s.data.toList).2.2.1.toNat := by rw [size_len, hx, List.length_drop, size_len]
          rw [if_neg ht, if_neg ht, if_pos (by omega), if_pos (by omega), kskip_f _ _ (by omega) (by omega), hx]
          simp only [Option.bind_some]
          obtain ⟨q1, q2⟩ := kskip_range (s.data.toList.drop (ktake s.data.toList).2.2.1.toNat) (ktake s.data.toList).2.1
          rw [List.length_drop] at q2
          generalize (kskip (s.data.toList.drop (ktake s.data.toList).2.2.1.toNat) (ktake s.data.toList).2.1) = q at *
          by_cases hq : q.2 = 0
          · rw [if_pos hq, if_pos hq, w64 (by omega) (by omega)]
            have hy := ext_end s (a := (ktake s.data.toList).2.2.1 + q.1) (by omega)
            have hys : (s.extract ((ktake s.data.toList).2.2.1 + q.1).toNat s.size).size ≤ s.size := by rw [size_len, hy, List.length_drop, size_len]; omega
            have hc : s.extract (ktake s.data.toList).2.2.1.toNat ((ktake s.data.toList).2.2.1 + q.1).toNat = ba ((s.data.toList.drop (ktake s.data.toList).2.2.1.toNat).take q.1.toNat) := ba_ext (by rw [Lib.extract_data, ba_data]; congr 1; omega)
            rw [if_pos (by simp; omega), if_pos (by omega), if_pos (by omega), if_pos (by simp; omega), if_pos (by omega), ih k _ _ _ _ (by omega) (by omega) (by omega) (by omega) (by simp; omega) (by simp; omega) (by omega), hy, hc]
            generalize sp f (s.data.toList.drop ((ktake s.data.toList).2.2.1 + q.1).toNat) (ktake s.data.toList).1 = r
            unfold spin
            by_cases hr : r.2.2 = 0
            · simp [hr]
            · simp [hr]
          · rw [if_neg hq, if_neg hq]; simp [spin, hq]
      · rw [if_neg he, if_neg he]; simp [spin, he]
theorem split_f (s : ByteArray) (hs : s.size < 9223372036854775808) {k : Nat} (hk : 296 ≤ k) : key_Split.f k s = some (sp 256 s.data.toList 0) := by
  unfold key_Split.f
  rw [split_l0 256 k s [] [] 0 hs (by omega) (by omega) (by omega) (by simp) rfl (by omega)]
  unfold spin
  by_cases h : (sp 256 s.data.toList 0).2.2 = 0
  · rw [if_pos h]
    generalize sp 256 s.data.toList 0 = r at *
    obtain ⟨a, b, c⟩ := r
    simp only at h; subst h; rfl
  · rw [if_neg h]
    have := sp_err 256 s.data.toList 0 h
    rw [← this]
theorem ints_l0 (d : Nat) (l : List Int) (hl : l.length < 9223372036854775807) : ∀ (k i : Nat), i + d = l.length → d < k → concourseref04_Ints.l0 k l l (i : Int) = some true := by
  induction d with
  | zero =>
    intro k i hi hk
    obtain ⟨k, rfl⟩ : ∃ j, k = j + 1 := ⟨k - 1, by omega⟩
    rw [concourseref04_Ints.l0, if_neg (by omega)]
  | succ d ih =>
    intro k i hi hk
    obtain ⟨k, rfl⟩ : ∃ j, k = j + 1 := ⟨k - 1, by omega⟩
    rw [concourseref04_Ints.l0, if_pos (by omega), if_pos (by omega), if_pos (by omega), if_pos rfl, w64 (by omega) (by omega)]
    exact ih k (i + 1) (by omega) (by omega)
theorem ints_f (l : List Int) (hl : l.length < 9223372036854775807) {k : Nat} (hk : l.length < k) : concourseref04_Ints.f k l l = some true := by
  rw [concourseref04_Ints.f, if_pos rfl]; exact ints_l0 l.length l hl k 0 (by omega) hk
theorem spanput_f (s : ByteArray) (hs : s.size ≤ 140737488351232) {k : Nat} (hk : 10 ≤ k) : span_Put.f k s = some (ba (span s)) := by
  have hl := enc_len10 (n := s.size) (by omega)
  unfold span_Put.f
  rw [u64i (by omega) (by omega), put_f (by omega) (by omega) hk]
  simp only [Option.bind_some, Int.toNat_natCast]
  rw [if_pos (by rw [ba_size]; omega), ba_appendR]; rfl
theorem dropD {α : Type} {l : List α} {i : Nat} (d : α) (h : i < l.length) : l.drop i = l.getD i d :: l.drop (i + 1) := by
  rw [List.drop_eq_getElem_cons h, List.getD_eq_getElem?_getD, List.getElem?_eq_getElem h]; rfl
theorem mem_getD {α : Type} {l : List α} {i : Nat} (d : α) (h : i < l.length) : l.getD i d ∈ l := by
  rw [List.getD_eq_getElem?_getD, List.getElem?_eq_getElem h]; exact List.getElem_mem h
def jfin (out : ByteArray) (r : List UInt8 × Int) : ByteArray × Int := if r.2 = 0 then (out ++ ba r.1, 0) else ((⟨#[]⟩ : ByteArray), r.2)
theorem span_size (s : ByteArray) : (span s).length = (enc s.size).length + s.size := by unfold span; simp only [List.length_append]; rw [← size_len]
theorem jfin_step (out : ByteArray) (t : Int) (s : ByteArray) (r : List UInt8 × Int) :
    jfin (out ++ (ba (enc (2 * t + 1).toNat) ++ ba (span s))) r = jfin out (if r.2 = 0 then (enc (2 * t + 1).toNat ++ span s ++ r.1, 0) else ([], r.2)) := by
  unfold jfin
  by_cases h : r.2 = 0
  · rw [if_pos h, if_pos h, if_pos rfl, ba_append, ByteArray.append_assoc, ba_append]
  · rw [if_neg h, if_neg h, if_neg h]
theorem kput1 (t : Int) : kput t 1 = if t < 1 ∨ t > 255 then ((⟨#[]⟩ : ByteArray), 9) else (ba (enc (2 * t + 1).toNat), 0) := by
  unfold kput; split
  · rfl
  · rw [if_pos (.inr rfl)]
theorem join_l0 (ts : List Int) (ss : List ByteArray) (hl : ts.length = ss.length) (h300 : ts.length ≤ 300) (hw : ∀ n ∈ ts, (Lit.int .i64 n).wf = true) (hs : ∀ s ∈ ss, s.size ≤ 140737488351232) (d : Nat) :
    ∀ (k i : Nat) (out : ByteArray) (last : Int), i + d = ts.length → out.size ≤ i * 281474976710656 → d + 40 ≤ k →
    key_Join.l0 k ss out last ts (ts.length : Int) (i : Int) = some (jfin out (jn (ts.drop i) (ss.drop i) last)) := by
  induction d with
  | zero =>
    intro k i out last hi ho hk
    obtain ⟨k, rfl⟩ : ∃ j, k = j + 1 := ⟨k - 1, by omega⟩
    rw [key_Join.l0, if_neg (by omega), List.drop_of_length_le (by omega)]
    simp only [jn, jfin]
    rw [if_pos trivial, show ba [] = ByteArray.empty from rfl, ByteArray.append_empty]
  | succ d ih =>
    intro k i out last hi ho hk
    obtain ⟨k, rfl⟩ : ∃ j, k = j + 1 := ⟨k - 1, by omega⟩
    have hit : i < ts.length := by omega
    have his : i < ss.length := by omega
    obtain ⟨t0, t1⟩ := wf_i64 (hw _ (mem_getD 0 hit))
    have hss := hs _ (mem_getD ByteArray.empty his)
    rw [key_Join.l0, if_pos (by omega), if_pos (by omega), if_pos (by omega), dropD 0 hit, dropD ByteArray.empty his]
    unfold rd rdOf
    rw [Int.toNat_natCast]
    generalize ts.getD i 0 = t at *
    generalize ss.getD i ByteArray.empty = s at *
    rw [kput_f t0 t1 (by omega), kput1]
    simp only [Option.bind_some, jn]
    by_cases h1 : t < 1 ∨ t > 255
    · rw [if_pos h1, if_neg (by decide), if_pos (by omega)]; rfl
    · rw [if_neg h1, if_pos rfl]
      by_cases h2 : t ≤ last
      · rw [if_pos h2, if_pos (by omega)]; rfl
      · have he := enc_len10 (n := (2 * t + 1).toNat) (by omega)
        have he2 := enc_len10 (n := s.size) (by omega)
        have hz := span_size s
        rw [if_neg h2, if_pos (by omega), spanput_f s hss (by omega)]
        simp only [Option.bind_some]
        rw [if_pos (by rw [ba_size, ba_size]; omega), if_pos (by rw [ByteArray.size_append, ba_size, ba_size]; omega), w64 (by omega) (by omega)]
        rw [show ((i : Int) + 1) = ((i + 1 : Nat) : Int) from rfl, ih k (i + 1) _ t (by omega) (by rw [ByteArray.size_append, ByteArray.size_append, ba_size, ba_size]; omega) (by omega), jfin_step]
        rw [if_neg (by omega : ¬ (t < 1 ∨ t > 255 ∨ t ≤ last))]
theorem join_f (ts : List Int) (ss : List ByteArray) (h300 : ts.length ≤ 300) (hw : ∀ n ∈ ts, (Lit.int .i64 n).wf = true) (hs : ∀ s ∈ ss, s.size ≤ 140737488351232) {k : Nat} (hk : 350 ≤ k) :
    key_Join.f k ts ss = some (if ts.length = ss.length then (ba (jn ts ss 0).1, (jn ts ss 0).2) else ((⟨#[]⟩ : ByteArray), 1)) := by
  unfold key_Join.f
  by_cases h : ts.length = ss.length
  · rw [if_pos (by omega), if_pos h]
    have := join_l0 ts ss h h300 hw hs ts.length k 0 (⟨#[]⟩ : ByteArray) 0 (by omega) (by show ByteArray.size ByteArray.empty ≤ _; rw [ByteArray.size_empty]; omega) (by omega)
    rw [show ((0 : Nat) : Int) = 0 from rfl] at this
    rw [this, List.drop_zero, List.drop_zero]
    unfold jfin
    rcases jn_err ts ss 0 with h0 | h0
    · rw [if_pos h0, show (⟨#[]⟩ : ByteArray) = ByteArray.empty from rfl, ByteArray.empty_append, h0]
    · rw [h0, if_neg (by decide)]; rfl
  · rw [if_neg (by omega), if_neg h]

theorem back_l0 (ss : List ByteArray) (hs : ∀ s ∈ ss, s.size ≤ 140737488351232) (h300 : ss.length ≤ 300) (d : Nat) : ∀ (k i : Nat), i + d = ss.length → d + 40 ≤ k →
    concourselaw04_KeyBack.l0 k ss (ss.map fun s => ba (span s)) (i : Int) = some true := by
  induction d with
  | zero =>
    intro k i hi hk
    obtain ⟨k, rfl⟩ : ∃ j, k = j + 1 := ⟨k - 1, by omega⟩
    rw [concourselaw04_KeyBack.l0, List.length_map, if_neg (by omega), awake_f (by omega)]; rfl
  | succ d ih =>
    intro k i hi hk
    obtain ⟨k, rfl⟩ : ∃ j, k = j + 1 := ⟨k - 1, by omega⟩
    have his : i < ss.length := by omega
    have hss := hs _ (mem_getD ByteArray.empty his)
    have hg : (ss.map fun s => ba (span s)).getD i ByteArray.empty = ba (span (ss.getD i ByteArray.empty)) := by
      rw [List.getD_eq_getElem?_getD, List.getElem?_map, List.getD_eq_getElem?_getD, List.getElem?_eq_getElem his]; rfl
    rw [concourselaw04_KeyBack.l0, List.length_map, if_pos (by omega), if_pos (by omega)]
    unfold rdOf
    rw [Int.toNat_natCast, hg]
    generalize ss.getD i ByteArray.empty = s at *
    have he2 := enc_len10 (n := s.size) (by omega)
    have hz := span_size s
    rw [stake_f _ (by rw [ba_size]; omega) (by rw [ba_size]; omega) (by rw [ba_size]; omega) (by omega), ba_data, ba_size, span_take s (by omega)]
    simp only [Option.bind_some, if_true]
    rw [if_pos (by omega), w64 (by omega) (by omega)]
    exact ih k (i + 1) (by omega) (by omega)
theorem jn_size : ∀ (ts : List Int) (ss : List ByteArray) (last : Int), (∀ s ∈ ss, s.size ≤ 140737488351232) → (jn ts ss last).1.length ≤ ss.length * 281474976710656 := by
  intro ts
  induction ts with
  | nil => intro ss last _; cases ss <;> simp [jn]
  | cons t ts ih =>
    intro ss last hs
    cases ss with
    | nil => simp [jn]
    | cons s ss =>
      simp only [jn]
      split
      · simp
      · rename_i h1
        split
        · have h2 := ih ss t (fun x hx => hs x (by simp [hx]))
          have h3 := hs s (by simp)
          have he := enc_len10 (n := (2 * t + 1).toNat) (by omega)
          have he2 := enc_len10 (n := s.size) (by omega)
          have hz := span_size s
          simp only [List.length_append, List.length_cons]
          omega
        · simp
theorem KeyBack : ∀ (ts : List Int) (ss : List ByteArray), (∀ n ∈ ts, (Lit.int .i64 n).wf = true) → (∀ s ∈ ss, s.size ≤ 140737488351232) → ∃ k, concourselaw04_KeyBack.f k ts ss = some true := by
  intro ts ss hw hs
  refine ⟨801, ?_⟩
  unfold concourselaw04_KeyBack.f
  by_cases h1 : (ts.length : Int) > 300
  · rw [if_pos h1]
    simp only [concourselaw04_KeyBack.j0]
    rw [if_pos trivial, awake_f (by decide)]; rfl
  · rw [if_neg h1]
    simp only [concourselaw04_KeyBack.j0]
    by_cases h2 : (ss.length : Int) > 300
    · rw [if_pos (decide_eq_true h2), awake_f (by decide)]; rfl
    · rw [if_neg (by rw [decide_eq_true_eq]; exact h2), join_f ts ss (by omega) hw hs (by decide)]
      simp only [Option.bind_some]
      by_cases hl : ts.length = ss.length
      · rw [if_pos hl]
        rcases jn_err ts ss 0 with h0 | h0
        · have hsz := jn_size ts ss 0 hs
          have hsp := sp_jn 256 ts ss 0 hl (fun s h => by have := hs s h; omega) (by omega) h0
          rw [if_pos h0, split_f _ (by rw [ba_size]; omega) (by decide), ba_data, hsp]
          simp only [Option.bind_some, if_true]
          rw [ints_f ts (by omega) (by omega)]
          simp only [Option.bind_some, if_true, List.length_map, hl, bne_self_eq_false]
          simp only [concourselaw04_KeyBack.j1]
          rw [if_neg (by decide)]
          exact back_l0 ss hs (by omega) ss.length 799 0 (by omega) (by omega)
        · rw [h0, if_neg (by decide), if_pos (by rw [ba_toList]), awake_f (by decide)]; rfl
      · rw [if_neg hl, if_neg (by decide), if_pos (by rw [ByteArray.toList_eq]), awake_f (by decide)]; rfl

end Go.Proofs.Ytpijeiophibmkaa.Pure
