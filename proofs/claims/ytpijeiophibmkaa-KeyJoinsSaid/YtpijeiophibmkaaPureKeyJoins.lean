/- For all tags and texts (up to 300): key.Join answers as the document's Join does. Conditions: none but that each text has at most 140737488351232 bytes, which the row gives. -/
import Derived.Test.YtpijeiophibmkaaPKeyJoinsx2
import Derived.Test.YtpijeiophibmkaaKM
namespace Go.Proofs.Ytpijeiophibmkaa.Pure
open Go.RowKit Go.Proofs.Ytpijeiophibmkaa.PKeyJoins Go.Proofs.YtpijeiophibmkaaW.PrintWords Go.Proofs.YtpijeiophibmkaaW.PrintLast Go.Proofs.YtpijeiophibmkaaW.PrintMore Go.Proofs.Ytpijeiophibmkaa.VM
set_option linter.unusedSimpArgs false
set_option linter.unusedVariables false

/-- varint.Put, as a list of bytes. -/
theorem put_l0 (k : Nat) : ∀ (n : Nat) (acc : List Int), n < 128 ^ (k + 1) → acc.length + k < 1000 → varint_Put.l0 (k + 1) (n : Int) acc = some (ba ((acc.map fun n => UInt8.ofNat n.toNat) ++ enc n)) := by
  induction k with
  | zero =>
    intro n acc hn hl
    simp only [varint_Put.l0]
    rw [if_pos (by omega), if_pos (by omega), enc_lt (by omega)]
    simp only [strOfNums, ba, List.map_append, List.map_cons, List.map_nil]
    rw [show ((n : Int) % 256).toNat = n by omega]
  | succ k ih =>
    intro n acc hn hl
    rw [varint_Put.l0]
    by_cases h : n < 128
    · rw [if_pos (by omega), if_pos (by omega), enc_lt h]
      simp only [strOfNums, ba, List.map_append, List.map_cons, List.map_nil]
      rw [show ((n : Int) % 256).toNat = n by omega]
    · rw [if_neg (by omega), if_pos (by omega), or128' (by omega) (by omega), show (n : Int) / 128 = ((n / 128 : Nat) : Int) by omega, ih (n / 128) _ (by rw [Nat.pow_succ] at hn; exact Nat.div_lt_of_lt_mul (by rw [Nat.mul_comm]; exact hn)) (by simp; omega), enc_ge h]
      simp only [List.map_append, List.map_cons, List.map_nil, List.append_assoc, List.cons_append, List.nil_append]
      rw [show ((n : Int) % 256 % 128 + 128).toNat = n % 128 + 128 by omega]
theorem put_f {n : Int} (h0 : 0 ≤ n) (h1 : n < 18446744073709551616) {k : Nat} (hk : 10 ≤ k) : varint_Put.f k n = some (ba (enc n.toNat)) := by
  obtain ⟨m, rfl⟩ := Int.eq_ofNat_of_zero_le h0
  refine at_rounds (varint_Put.mono _) hk ?_
  rw [varint_Put.f, put_l0 9 m [] (by simp only [Nat.reducePow, Nat.reduceAdd]; omega) (by simp)]
  simp
/-- The document's Put. -/
theorem byte_f (n : Int) : concourseref01_Byte.f n = some (ba [UInt8.ofNat (n % 256).toNat]) := rfl
theorem refput_f' (k : Nat) : ∀ (n : Nat), n < 128 ^ (k + 1) → n < 18446744073709551616 → k < 1000 → concourseref01_Put.f (k + 1) (n : Int) = some (ba (enc n)) := by
  induction k with
  | zero =>
    intro n hn h64 hk
    rw [concourseref01_Put.f, if_pos (by omega), byte_f, w64 (by omega) (by omega), enc_lt (by omega)]
    simp only [Option.bind_some]
    rw [show ((n : Int) % 256).toNat = n by omega]
  | succ k ih =>
    intro n hn h64 hk
    rw [concourseref01_Put.f]
    by_cases h : n < 128
    · rw [if_pos (by omega), byte_f, w64 (by omega) (by omega), enc_lt (by omega)]
      simp only [Option.bind_some]
      rw [show ((n : Int) % 256).toNat = n by omega]
    · have hd : n / 128 < 128 ^ (k + 1) := by rw [Nat.pow_succ] at hn; exact Nat.div_lt_of_lt_mul (by rw [Nat.mul_comm]; exact hn)
      have hl := enc_len k (n / 128) hd
      rw [if_neg (by omega), Int.tmod_eq_emod_of_nonneg (by omega), Int.tdiv_eq_ediv_of_nonneg (by omega), w64 (n := (n : Int) % 128) (by omega) (by omega), w64 (by omega) (by omega), byte_f, u64i (by omega) (by omega), show (n : Int) / 128 = ((n / 128 : Nat) : Int) by omega, ih (n / 128) hd (by omega) (by omega)]
      simp only [Option.bind_some]
      rw [if_pos (by rw [ba_size, ba_size]; simp; omega), ba_append, enc_ge h, show (((n : Int) % 128 + 128) % 256).toNat = n % 128 + 128 by omega]
      rfl
theorem refput_f {n : Int} (h0 : 0 ≤ n) (h1 : n < 18446744073709551616) {k : Nat} (hk : 10 ≤ k) : concourseref01_Put.f k n = some (ba (enc n.toNat)) := by
  obtain ⟨m, rfl⟩ := Int.eq_ofNat_of_zero_le h0
  refine at_rounds (g := fun j => concourseref01_Put.f j (m : Int)) (fun j => concourseref01_Put.mono _ _) hk ?_
  exact refput_f' 9 m (by simp only [Nat.reducePow, Nat.reduceAdd]; omega) (by omega) (by omega)
theorem kput_f {t w : Int} (t0 : -9223372036854775808 ≤ t) (t1 : t < 9223372036854775808) {k : Nat} (hk : 10 ≤ k) : key_Put.f k t w = some (kput t w) := by
  unfold key_Put.f kput key_tagged.f key_wire_known.f
  by_cases h1 : t ≥ 1
  · rw [if_pos h1]
    simp only [Option.bind_some]
    by_cases h2 : t ≤ 255
    · have hR : ¬ (t < 1 ∨ t > 255) := by omega
      rw [if_pos (decide_eq_true h2)]
      by_cases h3 : w = 0
      · subst h3
        rw [if_pos rfl, if_neg hR, if_pos (.inl rfl)]
        simp only [Option.bind_some, if_true]
        rw [w64 (n := 2 * t) (by omega) (by omega), w64 (by omega) (by omega), u64i (by omega) (by omega), put_f (by omega) (by omega) hk]; rfl
      · rw [if_neg h3, if_neg hR]
        simp only [Option.bind_some]
        by_cases h4 : w = 1
        · subst h4
          rw [if_pos (by rfl), if_pos (.inr rfl), w64 (n := 2 * t) (by omega) (by omega), w64 (by omega) (by omega), u64i (by omega) (by omega), put_f (by omega) (by omega) hk]; rfl
        · rw [if_neg (by simpa using h4), if_neg (by omega)]
    · rw [if_neg (by rw [decide_eq_true_eq]; exact h2), if_pos (by omega)]
  · rw [if_neg h1]
    simp only [Option.bind_some]
    rw [if_neg (by decide), if_pos (by omega)]
theorem refkput_f {t w : Int} (t0 : -9223372036854775808 ≤ t) (t1 : t < 9223372036854775808) {k : Nat} (hk : 12 ≤ k) : concourseref04_Put.f k t w = some (kput t w) := by
  obtain ⟨k, rfl⟩ : ∃ j, k = j + 1 := ⟨k - 1, by omega⟩
  unfold concourseref04_Put.f kput
  by_cases h1 : t < 1
  · rw [if_pos h1, if_pos (.inl h1)]; rfl
  · rw [if_neg h1]
    simp only [concourseref04_Put.j0]
    by_cases h2 : t > 255
    · rw [if_pos (decide_eq_true h2), if_pos (by omega)]
    · rw [if_neg (by rw [decide_eq_true_eq]; exact h2), if_neg (by omega : ¬ (t < 1 ∨ t > 255))]
      by_cases h3 : w = 0
      · subst h3
        rw [if_pos rfl, if_pos (.inl rfl), w64 (n := 2 * t) (by omega) (by omega), w64 (by omega) (by omega), u64i (by omega) (by omega), refput_f (by omega) (by omega) (by omega)]; rfl
      · rw [if_neg h3]
        by_cases h4 : w = 1
        · subst h4
          rw [if_pos rfl, if_pos (.inr rfl), w64 (n := 2 * t) (by omega) (by omega), w64 (by omega) (by omega), u64i (by omega) (by omega), refput_f (by omega) (by omega) (by omega)]; rfl
        · rw [if_neg h4, if_neg (by omega)]
theorem awake_f {k : Nat} (hk : 10 ≤ k) : concourselaw04_awake.f k = some true := by
  unfold concourselaw04_awake.f
  have e : kput 1 1 = (ba (enc 3), 0) := by unfold kput; rw [if_neg (by decide), if_pos (.inr rfl)]; rfl
  rw [kput_f (by decide) (by decide) hk, e]
  simp only [Option.bind_some]
  rw [ba_toList, enc_lt (by decide), if_pos (by decide)]; rfl
theorem spanput_f (s : ByteArray) (hs : s.size ≤ 140737488351232) {k : Nat} (hk : 10 ≤ k) : span_Put.f k s = some (ba (span s)) := by
  have hl := enc_len10 (n := s.size) (by omega)
  unfold span_Put.f
  rw [u64i (by omega) (by omega), put_f (by omega) (by omega) hk]
  simp only [Option.bind_some, Int.toNat_natCast]
  rw [if_pos (by rw [ba_size]; omega), ba_appendR]; rfl
theorem refspanput_f (s : ByteArray) (hs : s.size ≤ 140737488351232) {k : Nat} (hk : 10 ≤ k) : concourseref02_Put.f k s = some (ba (span s)) := by
  have hl := enc_len10 (n := s.size) (by omega)
  unfold concourseref02_Put.f
  rw [u64i (by omega) (by omega), refput_f (by omega) (by omega) hk]
  simp only [Option.bind_some, Int.toNat_natCast]
  rw [if_pos (by rw [ba_size]; omega), ba_appendR]; rfl
theorem dropD {α : Type} {l : List α} {i : Nat} (d : α) (h : i < l.length) : l.drop i = l.getD i d :: l.drop (i + 1) := by
  rw [List.drop_eq_getElem_cons h, List.getD_eq_getElem?_getD, List.getElem?_eq_getElem h]; rfl
theorem mem_getD {α : Type} {l : List α} {i : Nat} (d : α) (h : i < l.length) : l.getD i d ∈ l := by
  rw [List.getD_eq_getElem?_getD, List.getElem?_eq_getElem h]; exact List.getElem_mem h
def jfin (out : ByteArray) (r : List UInt8 × Int) : ByteArray × Int := if r.2 = 0 then (out ++ ba r.1, 0) else ((⟨#[]⟩ : ByteArray), r.2)
theorem span_size (s : ByteArray) : (span s).length = (enc s.size).length + s.size := by unfold span; simp only [List.length_append]; rw [← size_len]
theorem jfin_step (out : ByteArray) (t : Int) (s : ByteArray) (r : List UInt8 × Int) :
    jfin (out ++ (ba (enc (2 * t + 1).toNat) ++ ba (span s))) r = jfin out (if r.2 = 0 then (enc (2 * t + 1).toNat ++ span s ++ r.1, 0) else ([], r.2)) := by
  unfold jfin
  by_cases h : r.2 = 0
  · rw [if_pos h, if_pos h, if_pos rfl, ba_append, ByteArray.append_assoc, ba_append]
  · rw [if_neg h, if_neg h, if_neg h]
theorem kput1 (t : Int) : kput t 1 = if t < 1 ∨ t > 255 then ((⟨#[]⟩ : ByteArray), 9) else (ba (enc (2 * t + 1).toNat), 0) := by
  unfold kput; split
  · rfl
  · rw [if_pos (.inr rfl)]
theorem join_l0 (ts : List Int) (ss : List ByteArray) (hl : ts.length = ss.length) (h300 : ts.length ≤ 300) (hw : ∀ n ∈ ts, (Lit.int .i64 n).wf = true) (hs : ∀ s ∈ ss, s.size ≤ 140737488351232) (d : Nat) :
    ∀ (k i : Nat) (out : ByteArray) (last : Int), i + d = ts.length → out.size ≤ i * 281474976710656 → d + 40 ≤ k →
    key_Join.l0 k ss out last ts (ts.length : Int) (i : Int) = some (jfin out (jn (ts.drop i) (ss.drop i) last)) := by
  induction d with
  | zero =>
    intro k i out last hi ho hk
    obtain ⟨k, rfl⟩ : ∃ j, k = j + 1 := ⟨k - 1, by omega⟩
    rw [key_Join.l0, if_neg (by omega), List.drop_of_length_le (by omega)]
    simp only [jn, jfin]
    rw [if_pos trivial, show ba [] = ByteArray.empty from rfl, ByteArray.append_empty]
  | succ d ih =>
    intro k i out last hi ho hk
    obtain ⟨k, rfl⟩ : ∃ j, k = j + 1 := ⟨k - 1, by omega⟩
    have hit : i < ts.length := by omega
    have his : i < ss.length := by omega
    obtain ⟨t0, t1⟩ := wf_i64 (hw _ (mem_getD 0 hit))
    have hss := hs _ (mem_getD ByteArray.empty his)
    rw [key_Join.l0, if_pos (by omega), if_pos (by omega), if_pos (by omega), dropD 0 hit, dropD ByteArray.empty his]
    unfold rd rdOf
    rw [Int.toNat_natCast]
    generalize ts.getD i 0 = t at *
    generalize ss.getD i ByteArray.empty = s at *
    rw [kput_f t0 t1 (by omega), kput1]
    simp only [Option.bind_some, jn]
    by_cases h1 : t < 1 ∨ t > 255
    · rw [if_pos h1, if_neg (by decide), if_pos (by omega)]; rfl
    · rw [if_neg h1, if_pos rfl]
      by_cases h2 : t ≤ last
      · rw [if_pos h2, if_pos (by omega)]; rfl
      · have he := enc_len10 (n := (2 * t + 1).toNat) (by omega)
        have he2 := enc_len10 (n := s.size) (by omega)
        have hz := span_size s
        rw [if_neg h2, if_pos (by omega), spanput_f s hss (by omega)]
        simp only [Option.bind_some]
        rw [if_pos (by rw [ba_size, ba_size]; omega), if_pos (by rw [ByteArray.size_append, ba_size, ba_size]; omega), w64 (by omega) (by omega)]
        rw [show ((i : Int) + 1) = ((i + 1 : Nat) : Int) from rfl, ih k (i + 1) _ t (by omega) (by rw [ByteArray.size_append, ByteArray.size_append, ba_size, ba_size]; omega) (by omega), jfin_step]
        rw [if_neg (by omega : ¬ (t < 1 ∨ t > 255 ∨ t ≤ last))]
theorem join_f (ts : List Int) (ss : List ByteArray) (h300 : ts.length ≤ 300) (hw : ∀ n ∈ ts, (Lit.int .i64 n).wf = true) (hs : ∀ s ∈ ss, s.size ≤ 140737488351232) {k : Nat} (hk : 350 ≤ k) :
    key_Join.f k ts ss = some (if ts.length = ss.length then (ba (jn ts ss 0).1, (jn ts ss 0).2) else ((⟨#[]⟩ : ByteArray), 1)) := by
  unfold key_Join.f
  by_cases h : ts.length = ss.length
  · rw [if_pos (by omega), if_pos h]
    have := join_l0 ts ss h h300 hw hs ts.length k 0 (⟨#[]⟩ : ByteArray) 0 (by omega) (by show ByteArray.size ByteArray.empty ≤ _; rw [ByteArray.size_empty]; omega) (by omega)
    rw [show ((0 : Nat) : Int) = 0 from rfl] at this
    rw [this, List.drop_zero, List.drop_zero]
    unfold jfin
    rcases jn_err ts ss 0 with h0 | h0
    · rw [if_pos h0, show (⟨#[]⟩ : ByteArray) = ByteArray.empty from rfl, ByteArray.empty_append, h0]
    · rw [h0, if_neg (by decide)]; rfl
  · rw [if_neg (by omega), if_neg h]
theorem refjoin_l0 (ts : List Int) (ss : List ByteArray) (hl : ts.length = ss.length) (h300 : ts.length ≤ 300) (hw : ∀ n ∈ ts, (Lit.int .i64 n).wf = true) (hs : ∀ s ∈ ss, s.size ≤ 140737488351232) (d : Nat) :
    ∀ (k i : Nat) (out : ByteArray) (last : Int), i + d = ts.length → out.size ≤ i * 281474976710656 → d + 40 ≤ k → (i = 0 ∧ last = 0 ∨ 0 < i ∧ last = ts.getD (i - 1) 0) →
    concourseref04_Join.l0 k ts ss out (i : Int) = some (jfin out (jn (ts.drop i) (ss.drop i) last)) := by
  induction d with
  | zero =>
    intro k i out last hi ho hk _
    obtain ⟨k, rfl⟩ : ∃ j, k = j + 1 := ⟨k - 1, by omega⟩
    rw [concourseref04_Join.l0, if_neg (by omega), List.drop_of_length_le (by omega)]
    simp only [jn, jfin]
    rw [if_pos trivial, show ba [] = ByteArray.empty from rfl, ByteArray.append_empty]
  | succ d ih =>
    intro k i out last hi ho hk hlast
    obtain ⟨k, rfl⟩ : ∃ j, k = j + 1 := ⟨k - 1, by omega⟩
    have hit : i < ts.length := by omega
    have his : i < ss.length := by omega
    obtain ⟨t0, t1⟩ := wf_i64 (hw _ (mem_getD 0 hit))
    have hss := hs _ (mem_getD ByteArray.empty his)
    rw [concourseref04_Join.l0, if_pos (by omega), if_pos (by omega), dropD 0 hit, dropD ByteArray.empty his]
    unfold rd rdOf
    rw [Int.toNat_natCast]
    have hnext : (0 : Nat) < i + 1 ∧ ts.getD i 0 = ts.getD (i + 1 - 1) 0 := ⟨by omega, by rw [Nat.add_sub_cancel]⟩
    have hprev : 0 < i → ts.getD (wrap64 ((i : Int) - 1)).toNat 0 = last := by
      intro h; rw [w64 (by omega) (by omega), show ((i : Int) - 1).toNat = i - 1 by omega]; omega
    generalize ts.getD (wrap64 ((i : Int) - 1)).toNat 0 = pv at *
    generalize hgt : ts.getD i 0 = t at *
    generalize ss.getD i ByteArray.empty = s at *
    rw [refkput_f t0 t1 (by omega), kput1]
    simp only [Option.bind_some, jn]
    by_cases h1 : t < 1 ∨ t > 255
    · rw [if_pos h1, if_neg (by decide), if_pos (by omega)]; rfl
    · rw [if_neg h1, if_pos rfl]
      have he := enc_len10 (n := (2 * t + 1).toNat) (by omega)
      have he2 := enc_len10 (n := s.size) (by omega)
      have hz := span_size s
      have htail : ¬ t ≤ last → ((concourseref02_Put.f k s).bind fun t133 => (if (ba (enc (2 * t + 1).toNat)).size + t133.size ≤ 9223372036854775807 then (if out.size + (ba (enc (2 * t + 1).toNat) ++ t133).size ≤ 9223372036854775807 then (concourseref04_Join.l0 k ts ss (out ++ (ba (enc (2 * t + 1).toNat) ++ t133)) (wrap64 ((i : Int) + 1))) else (none)) else (none)))
          = some (jfin out (if t < 1 ∨ t > 255 ∨ t ≤ last then ([], 9) else if (jn (ts.drop (i + 1)) (ss.drop (i + 1)) t).2 = 0 then (enc (2 * t + 1).toNat ++ span s ++ (jn (ts.drop (i + 1)) (ss.drop (i + 1)) t).1, 0) else ([], (jn (ts.drop (i + 1)) (ss.drop (i + 1)) t).2))) := by
        intro h2
        rw [refspanput_f s hss (by omega)]
        simp only [Option.bind_some]
        rw [if_pos (by rw [ba_size, ba_size]; omega), if_pos (by rw [ByteArray.size_append, ba_size, ba_size]; omega), w64 (by omega) (by omega)]
        rw [show ((i : Int) + 1) = ((i + 1 : Nat) : Int) from rfl, ih k (i + 1) _ t (by omega) (by rw [ByteArray.size_append, ByteArray.size_append, ba_size, ba_size]; omega) (by omega) (.inr (by rw [← hgt]; exact ⟨by omega, by rw [Nat.add_sub_cancel]⟩)), jfin_step]
        rw [if_neg (by omega : ¬ (t < 1 ∨ t > 255 ∨ t ≤ last))]
      by_cases h0 : (i : Int) > 0
      · have hp := hprev (by omega)
        subst hp
        rw [if_pos h0, if_pos (by rw [w64 (by omega) (by omega)]; omega), if_pos (by rw [w64 (by omega) (by omega)]; omega)]
        by_cases h2 : t ≤ pv
        · rw [if_pos h2, if_pos (by omega)]; rfl
        · rw [if_neg h2, if_pos (by omega)]; exact htail h2
      · rw [if_neg h0, if_pos (by omega)]; exact htail (by omega)
theorem refjoin_f (ts : List Int) (ss : List ByteArray) (h300 : ts.length ≤ 300) (hw : ∀ n ∈ ts, (Lit.int .i64 n).wf = true) (hs : ∀ s ∈ ss, s.size ≤ 140737488351232) {k : Nat} (hk : 350 ≤ k) :
    concourseref04_Join.f k ts ss = some (if ts.length = ss.length then (ba (jn ts ss 0).1, (jn ts ss 0).2) else ((⟨#[]⟩ : ByteArray), 1)) := by
  unfold concourseref04_Join.f
  by_cases h : ts.length = ss.length
  · rw [if_pos (by omega), if_pos h]
    have := refjoin_l0 ts ss h h300 hw hs ts.length k 0 (⟨#[]⟩ : ByteArray) 0 (by omega) (by show ByteArray.size ByteArray.empty ≤ _; rw [ByteArray.size_empty]; omega) (by omega) (.inl ⟨rfl, rfl⟩)
    rw [show ((0 : Nat) : Int) = 0 from rfl] at this
    rw [this, List.drop_zero, List.drop_zero]
    unfold jfin
    rcases jn_err ts ss 0 with h0 | h0
    · rw [if_pos h0, show (⟨#[]⟩ : ByteArray) = ByteArray.empty from rfl, ByteArray.empty_append, h0]
    · rw [h0, if_neg (by decide)]; rfl
  · rw [if_neg (by omega), if_neg h]

theorem KeyJoins : ∀ (ts : List Int) (ss : List ByteArray), (∀ n ∈ ts, (Lit.int .i64 n).wf = true) → (∀ s ∈ ss, s.size ≤ 140737488351232) → ∃ k, concourselaw04_KeyJoins.f k ts ss = some true := by
  intro ts ss hw hs
  refine ⟨501, ?_⟩
  unfold concourselaw04_KeyJoins.f
  by_cases h1 : (ts.length : Int) > 300
  · rw [if_pos h1]
    simp only [concourselaw04_KeyJoins.j0]
    rw [if_pos trivial, awake_f (by decide)]; rfl
  · rw [if_neg h1]
    simp only [concourselaw04_KeyJoins.j0]
    by_cases h2 : (ss.length : Int) > 300
    · rw [if_pos (decide_eq_true h2), awake_f (by decide)]; rfl
    · rw [if_neg (by rw [decide_eq_true_eq]; exact h2), join_f ts ss (by omega) hw hs (by decide), refjoin_f ts ss (by omega) hw hs (by decide), awake_f (by decide)]
      simp only [Option.bind_some, if_true]

end Go.Proofs.Ytpijeiophibmkaa.Pure
