/- For all events and numbers: no script has more events than 1024, put or taken, and as many may be as that. Conditions: none but that each number is of its kind. -/
import Derived.Test.YtklfpiapnhnhkaaPScriptManyx4
import Derived.Test.YtklfpiapnhnhkaaKM
namespace Go.Proofs.Ytklfpiapnhnhkaa.Pure
open Go.RowKit Go.Proofs.Ytklfpiapnhnhkaa.PScriptMany Go.Proofs.YtklfpiapnhnhkaaW.PrintWords Go.Proofs.YtklfpiapnhnhkaaW.PrintLast Go.Proofs.YtklfpiapnhnhkaaW.PrintMore Go.Proofs.Ytklfpiapnhnhkaa.VM
set_option linter.unusedSimpArgs false
set_option linter.unusedVariables false

/-- varint.Put, as a list of bytes. -/
theorem put_l0 (k : Nat) : ∀ (n : Nat) (acc : List Int), n < 128 ^ (k + 1) → acc.length + k < 1000 → varint_Put.l0 (k + 1) (n : Int) acc = some (ba ((acc.map fun n => UInt8.ofNat n.toNat) ++ enc n)) := by
  induction k with
  | zero =>
    intro n acc hn hl
    simp only [varint_Put.l0]
    rw [if_pos (by omega), if_pos (by omega), enc_lt (by omega)]
    simp only [strOfNums, ba, List.map_append, List.map_cons, List.map_nil]
    rw [show ((n : Int) % 256).toNat = n by omega]
  | succ k ih =>
    intro n acc hn hl
    rw [varint_Put.l0]
    by_cases h : n < 128
    · rw [if_pos (by omega), if_pos (by omega), enc_lt h]
      simp only [strOfNums, ba, List.map_append, List.map_cons, List.map_nil]
      rw [show ((n : Int) % 256).toNat = n by omega]
    · rw [if_neg (by omega), if_pos (by omega), or128' (by omega) (by omega), show (n : Int) / 128 = ((n / 128 : Nat) : Int) by omega, ih (n / 128) _ (by rw [Nat.pow_succ] at hn; exact Nat.div_lt_of_lt_mul (by rw [Nat.mul_comm]; exact hn)) (by simp; omega), enc_ge h]
      simp only [List.map_append, List.map_cons, List.map_nil, List.append_assoc, List.cons_append, List.nil_append]
      rw [show ((n : Int) % 256 % 128 + 128).toNat = n % 128 + 128 by omega]
theorem put_f {n : Int} (h0 : 0 ≤ n) (h1 : n < 18446744073709551616) {k : Nat} (hk : 10 ≤ k) : varint_Put.f k n = some (ba (enc n.toNat)) := by
  obtain ⟨m, rfl⟩ := Int.eq_ofNat_of_zero_le h0
  refine at_rounds (varint_Put.mono _) hk ?_
  rw [varint_Put.f, put_l0 9 m [] (by simp only [Nat.reducePow, Nat.reduceAdd]; omega) (by simp)]
  simp
/-- varint.Take. -/
theorem take_j1 (k : Nat) (s : ByteArray) (acc c : Nat) (i : Nat) (m : Int) (b : Bool) (hi : i ≤ 9) :
    varint_Take.j1 (k + 2) s acc i c m i b = if b = true ∨ (c = 0 ∧ i > 0) then some (0, 0, 1)
      else if c < 128 then some (Go.bits .or .u64 acc (shl .u64 (IntKind.u64.wrap (Go.bits .and .u8 c 127)) (wrap64 (7 * (i : Int)))), wrap64 (i + 1), 0)
      else varint_Take.l0 k s (Go.bits .or .u64 acc (shl .u64 (IntKind.u64.wrap (Go.bits .and .u8 c 127)) (wrap64 (7 * (i : Int))))) m (wrap64 (i + 1)) := by
  have hw : 0 ≤ wrap64 (7 * (i : Int)) := by rw [w64 (by omega) (by omega)]; omega
  cases b with
  | true => simp only [varint_Take.j1, varint_Take.j2, if_true, true_or]
  | false =>
    simp only [varint_Take.j1]
    rw [if_neg (by simp)]
    by_cases hc : c = 0
    · rw [if_pos (by omega)]
      simp only [varint_Take.j2]
      by_cases h0 : i > 0
      · rw [if_pos (by simp; omega), if_pos (.inr ⟨hc, h0⟩)]
      · rw [if_neg (by simp; omega), if_pos hw, if_pos (by omega), if_neg (by simp; omega), if_pos (by omega)]
    · rw [if_neg (by omega)]
      simp only [varint_Take.j2]
      rw [if_neg (by simp), if_pos hw]
      by_cases h1 : c < 128
      · rw [if_pos (by omega), if_neg (by simp; omega), if_pos h1]
      · rw [if_neg (by omega), if_neg (by simp; omega), if_neg h1]
theorem take_l0 (s : ByteArray) (d : Nat) : ∀ (k i acc : Nat), i + d = 9 → i ≤ s.size → acc < 128 ^ i → 3 * d + 3 ≤ k →
    varint_Take.l0 (k + 1) s (acc : Int) (mn (s.size : Int) 10) (i : Int) = some (fin i acc (tk i (s.data.toList.drop i))) := by
  induction d with
  | zero =>
    intro k i acc hi hs ha hk
    obtain rfl : i = 9 := by omega
    rw [varint_Take.l0]
    by_cases he : s.size = 9
    · rw [if_neg (by unfold mn; split <;> omega), List.drop_of_length_le (by rw [← size_len]; omega)]; rfl
    · have hl : 9 < s.data.toList.length := by rw [← size_len]; omega
      have hb := (s.data.toList.getD 9 0).toNat_lt
      obtain ⟨k, rfl⟩ : ∃ j, k = j + 2 := ⟨k - 2, by omega⟩
      rw [if_pos (by unfold mn; split <;> omega), if_pos (by omega), if_pos (by omega), if_pos (by omega), bt_getD, fin_step hl, take_j1 k s acc _ 9 _ _ (by omega), show ((9 : Nat) : Int).toNat = 9 from rfl]
      by_cases h1 : (s.data.toList.getD 9 0).toNat > 1
      · rw [if_pos (.inl (decide_eq_true (by omega))), if_pos (.inl ⟨rfl, h1⟩)]
      · by_cases h2 : (s.data.toList.getD 9 0).toNat = 0
        · rw [if_pos (.inr ⟨h2, by omega⟩), if_pos (.inr ⟨h2, by omega⟩)]
        · rw [if_neg (by simp only [decide_eq_true_eq]; omega), if_pos (by omega), if_neg (by omega), if_pos (by omega), and127 (by omega) (by omega), show (((s.data.toList.getD 9 0).toNat : Int) % 128) = (((s.data.toList.getD 9 0).toNat : Nat) : Int) by omega, or_shl ha (by omega) (by simp only [Nat.reducePow]; omega) (by omega), w64 (by omega) (by omega)]
          rfl
  | succ d ih =>
    intro k i acc hi hs ha hk
    rw [varint_Take.l0]
    by_cases he : s.size = i
    · rw [if_neg (by unfold mn; split <;> omega), List.drop_of_length_le (by rw [← size_len]; omega)]; rfl
    · have hl : i < s.data.toList.length := by rw [← size_len]; omega
      have hb := (s.data.toList.getD i 0).toNat_lt
      obtain ⟨k, rfl⟩ : ∃ j, k = j + 3 := ⟨k - 3, by omega⟩
      have hp8 : 128 ^ i ≤ 128 ^ 8 := Nat.pow_le_pow_right (by decide) (by omega)
      rw [if_pos (by unfold mn; split <;> omega), if_pos (by omega), if_pos (by omega), if_neg (by omega), bt_getD, fin_step hl, Int.toNat_natCast, take_j1 (k + 1) s acc _ i _ _ (by omega)]
      by_cases h2 : (s.data.toList.getD i 0).toNat = 0 ∧ i > 0
      · rw [if_pos (.inr h2), if_pos (.inr h2)]
      · rw [if_neg (by simp only [Bool.false_eq_true, false_or]; exact h2)]
        have hm : Go.bits .and .u8 (((s.data.toList.getD i 0).toNat : Nat) : Int) 127 = (((s.data.toList.getD i 0).toNat % 128 : Nat) : Int) := by rw [and127 (by omega) (by omega)]; omega
        have hq : (s.data.toList.getD i 0).toNat % 128 * 128 ^ i ≤ 127 * 128 ^ i := Nat.mul_le_mul_right _ (by omega)
        rw [hm, or_shl ha (by omega) (by simp only [Nat.reducePow] at hp8; omega) (by omega), w64 (by omega) (by omega)]
        by_cases h3 : (s.data.toList.getD i 0).toNat < 128
        · rw [if_pos h3, if_neg (by omega), if_pos h3, Nat.mod_eq_of_lt h3]; simp
        · rw [if_neg h3, if_neg (by omega), if_neg h3, show (s.data.toList.getD i 0).toNat % 128 = (s.data.toList.getD i 0).toNat - 128 by omega]
          exact ih k (i + 1) _ (by omega) (by omega) (by rw [Nat.pow_succ]; have : ((s.data.toList.getD i 0).toNat - 128) * 128 ^ i ≤ 127 * 128 ^ i := Nat.mul_le_mul_right _ (by omega); omega) (by omega)
theorem take_f (s : ByteArray) {k : Nat} (hk : 31 ≤ k) : varint_Take.f k s = some (tkI s.data.toList) := by
  refine at_rounds (varint_Take.mono _) hk ?_
  rw [varint_Take.f, show (0 : Int) = ((0 : Nat) : Int) from rfl, take_l0 s 9 30 0 0 rfl (by omega) (by simp) (by omega), List.drop_zero, fin0]
theorem stake_f (s : ByteArray) {m : Int} (m0 : -9223372036854775808 ≤ m) (m1 : m < 9223372036854775808) (hs : s.size < 9223372036854775808) {k : Nat} (hk : 31 ≤ k) : span_Take.f k s m = some (stake s.data.toList m) := by
  have hr := tkI_range s.data.toList
  have hl := size_len s
  have hm : 0 ≤ mx m 0 ∧ mx m 0 < 9223372036854775808 := by unfold mx; split <;> omega
  unfold span_Take.f stake
  rw [take_f s hk]
  simp only [Option.bind_some]
  by_cases h : (tkI s.data.toList).2.2 = 0
  · rw [if_pos h, if_pos h, u64i hm.1 (by omega)]
    by_cases h1 : (tkI s.data.toList).1 > mx m 0
    · rw [if_pos h1, if_pos h1]
    · rw [if_neg h1, if_neg h1, w64 (n := (s.size : Int) - (tkI s.data.toList).2.1) (by omega) (by omega), u64i (by omega) (by omega), hl]
      by_cases h2 : (tkI s.data.toList).1 > (s.data.toList.length : Int) - (tkI s.data.toList).2.1
      · rw [if_pos h2, if_pos h2]
      · have he : ∀ a b c : Nat, c = a + b → s.extract a c = ba ((s.data.toList.drop a).take b) := fun a b c hc => ba_ext (by rw [Lib.extract_data, ba_data]; congr 1; omega)
        rw [if_neg h2, if_neg h2, w64 (n := (tkI s.data.toList).1) (by omega) (by omega), w64 (n := (tkI s.data.toList).2.1 + (tkI s.data.toList).1) (by omega) (by omega), if_pos (by omega), if_pos (by omega), if_pos (by omega), he _ (tkI s.data.toList).1.toNat _ (by omega)]
  · rw [if_neg h, if_neg h]
theorem spanput_f (s : ByteArray) (hs : s.size ≤ 140737488351232) {k : Nat} (hk : 10 ≤ k) : span_Put.f k s = some (ba (span s)) := by
  have hl := enc_len10 (n := s.size) (by omega)
  unfold span_Put.f
  rw [u64i (by omega) (by omega), put_f (by omega) (by omega) hk]
  simp only [Option.bind_some, Int.toNat_natCast]
  rw [if_pos (by rw [ba_size]; omega), ba_appendR]; rfl
theorem dropS {l : List S24} {i : Nat} (h : i < l.length) : l.drop i = rd_T24 l (i : Int) :: l.drop (i + 1) := by
  unfold rd_T24
  rw [List.drop_eq_getElem_cons h, List.getD_eq_getElem?_getD, Int.toNat_natCast, List.getElem?_eq_getElem h]; rfl
theorem memS {l : List S24} {i : Nat} (h : i < l.length) : rd_T24 l (i : Int) ∈ l := by
  unfold rd_T24
  rw [List.getD_eq_getElem?_getD, Int.toNat_natCast, List.getElem?_eq_getElem h]; exact List.getElem_mem h
theorem span_size (s : ByteArray) : (span s).length = (enc s.size).length + s.size := by unfold span; simp only [List.length_append]; rw [← size_len]
/-- An event without what its kind has not. -/
def plain (v : S24) : S24 := ⟨v.f0, if v.f0 = 2 ∨ v.f0 = 6 ∨ v.f0 = 7 then v.f1 else 0, if v.f0 = 4 then v.f2 else 0, if v.f0 = 2 then v.f3 else (⟨#[]⟩ : ByteArray)⟩
/-- What is wrong with an event (0: nothing). -/
def everr (v : S24) : Int :=
  if v.f0 < 1 ∨ v.f0 > 7 then 4
  else if (v.f0 = 2 ∨ v.f0 = 6 ∨ v.f0 = 7) ∧ (v.f1 < 0 ∨ v.f1 > 15) ∨ v.f0 = 2 ∧ (v.f3.size : Int) > 1048576 then 1 else 0
/-- An event's bytes. -/
def evb (v : S24) : List UInt8 :=
  enc v.f0.toNat ++ (if v.f0 = 4 then enc v.f2.toNat else if v.f0 = 2 then enc v.f1.toNat ++ span v.f3 else if v.f0 = 6 ∨ v.f0 = 7 then enc v.f1.toNat else [])
def Wf (v : S24) : Prop := (Lit.int .i64 v.f0).wf = true ∧ (Lit.int .i64 v.f1).wf = true ∧ (Lit.int .u64 v.f2).wf = true
def sput (v : S24) : ByteArray × Int := if everr v = 0 then (ba (evb v), 0) else ((⟨#[]⟩ : ByteArray), everr v)
/-- A script's bytes. -/
def sgo : List S24 → List UInt8 × Int
  | [] => ([], 0)
  | v :: r => if everr v = 0 then (if (sgo r).2 = 0 then (evb v ++ (sgo r).1, 0) else ([], (sgo r).2)) else ([], everr v)
theorem kinds {k : Int} (h : ¬ (k < 1 ∨ k > 7)) : k = 1 ∨ k = 2 ∨ k = 3 ∨ k = 4 ∨ k = 5 ∨ k = 6 ∨ k = 7 := by omega
theorem everr_kind {v : S24} (h : everr v = 0) : ¬ (v.f0 < 1 ∨ v.f0 > 7) := by
  intro h1; unfold everr at h; rw [if_pos h1] at h; exact absurd h (by decide)
theorem everr_rest {v : S24} (h : everr v = 0) : ((v.f0 = 2 ∨ v.f0 = 6 ∨ v.f0 = 7) → 0 ≤ v.f1 ∧ v.f1 ≤ 15) ∧ (v.f0 = 2 → v.f3.size ≤ 1048576) := by
  have h0 := everr_kind h
  unfold everr at h
  rw [if_neg h0] at h
  split at h
  · exact absurd h (by decide)
  · rename_i h2; exact ⟨fun hc => by omega, fun hc => by omega⟩
theorem evb_len {v : S24} (h : everr v = 0) (hw : Wf v) : (evb v).length ≤ 1048616 := by
  have h0 := everr_kind h
  obtain ⟨h1, h2⟩ := everr_rest h
  obtain ⟨_, _, w2⟩ := hw
  have w2 := wf_u64 w2
  have e0 := enc_len10 (n := v.f0.toNat) (by omega)
  have e2 := enc_len10 (n := v.f2.toNat) (by omega)
  unfold evb
  rw [List.length_append]
  split
  · omega
  · split
    · rename_i hk
      have h1 := h1 (.inl hk)
      have h2 := h2 hk
      have e1 := enc_len10 (n := v.f1.toNat) (by omega)
      have e3 := enc_len10 (n := v.f3.size) (by omega)
      rw [List.length_append, span_size]; omega
    · split
      · rename_i hk
        have h1 := h1 (.inr hk)
        have e1 := enc_len10 (n := v.f1.toNat) (by omega)
        omega
      · simp; omega
theorem sgo_err (l : List S24) : (sgo l).2 ≠ 0 → (sgo l).1 = [] := by
  cases l with
  | nil => intro h; rfl
  | cons v r =>
    simp only [sgo]
    (repeat' split) <;> intro h <;> first | rfl | exact absurd rfl h
theorem plain_f (v : S24) : script_Plain.f v.f0 v.f1 v.f2 v.f3 = some ((plain v).f0, (plain v).f1, (plain v).f2, (plain v).f3) := by
  obtain ⟨a, b, c, d⟩ := v
  unfold script_Plain.f plain
  simp only []
  by_cases h4 : a = 4
  · subst h4; rfl
  · by_cases h2 : a = 2
    · subst h2; rfl
    · by_cases h6 : a = 6
      · subst h6; rfl
      · by_cases h7 : a = 7
        · subst h7; rfl
        · simp only [h4, h2, h6, h7, if_false, or_self]
theorem sput_f (v : S24) (hw : Wf v) {k : Nat} (hk : 14 ≤ k) : script_put.f k v.f0 v.f1 v.f2 v.f3 = some (sput v) := by
  obtain ⟨w0, w1, w2⟩ := hw
  obtain ⟨k, rfl⟩ : ∃ j, k = j + 2 := ⟨k - 2, by omega⟩
  unfold script_put.f
  rw [plain_f]
  obtain ⟨a, b, c, d⟩ := v
  have r1 := wf_i64 w1
  have r2 := wf_u64 w2
  clear w0 w1 w2
  simp only at r1 r2
  simp only [Option.bind_some]
  unfold sput
  by_cases h : a < 1 ∨ a > 7
  · have he : everr ⟨a, b, c, d⟩ = 4 := by unfold everr; rw [if_pos h]
    rw [he, if_neg (show ¬ (4 : Int) = 0 by decide)]
    by_cases h1 : a < 1
    · rw [if_pos h1]; simp only [script_put.j0]; rw [if_pos trivial]
    · rw [if_neg h1]; simp only [script_put.j0]; rw [if_pos (decide_eq_true (by omega))]
  · rw [if_neg (by omega)]
    simp only [script_put.j0]
    rw [if_neg (by rw [decide_eq_true_eq]; omega)]
    have put1 : ∀ n : Int, 0 ≤ n → n < 18446744073709551616 → varint_Put.f (k + 1) n = some (ba (enc n.toNat)) := fun n h0 h1 => put_f h0 h1 (by omega)
    have hl : ∀ n : Int, 0 ≤ n → n < 18446744073709551616 → (enc n.toNat).length ≤ 10 := fun n h0 h1 => enc_len10 (by omega)
    have hz : ByteArray.size (⟨#[]⟩ : ByteArray) = 0 := rfl
    have happ : ∀ l : List UInt8, ba l ++ (⟨#[]⟩ : ByteArray) = ba l := fun l => ByteArray.append_empty
    rcases kinds h with rfl | rfl | rfl | rfl | rfl | rfl | rfl
    · simp only [plain, evb, everr]
      simp [script_put.j1, put1, u64i, ba_size, hz, happ]
      rw [enc_lt (by decide)]; simp
    · rw [show plain ⟨2, b, c, d⟩ = ⟨2, b, 0, d⟩ from rfl, show evb ⟨2, b, c, d⟩ = enc 2 ++ (enc b.toNat ++ span d) from rfl]
      have hE : everr ⟨2, b, c, d⟩ = if (b < 0 ∨ b > 15) ∨ (d.size : Int) > 1048576 then 1 else 0 := by unfold everr; simp
      rw [hE]
      simp only []
      by_cases hb : b < 0 ∨ b > 15
      · rw [if_pos (show (b < 0 ∨ b > 15) ∨ (d.size : Int) > 1048576 from .inl hb)]
        by_cases h1 : b < 0
        · rw [if_pos h1]; rfl
        · rw [if_neg h1, if_pos (by omega)]; rfl
      · by_cases hd : (d.size : Int) > 1048576
        · rw [if_pos (show (b < 0 ∨ b > 15) ∨ (d.size : Int) > 1048576 from .inr hd), if_neg (by omega), if_neg (by omega), if_pos hd]; rfl
        · have h2 := spanput_f d (by omega) (k := k + 1) (by omega)
          have h3 := span_size d
          have h4 := hl (d.size : Int) (by omega) (by omega)
          have h5 := hl b (by omega) (by omega)
          have h6 := hl 2 (by decide) (by decide)
          simp only [Int.toNat_natCast] at h4
          rw [if_neg (show ¬ ((b < 0 ∨ b > 15) ∨ (d.size : Int) > 1048576) by omega), if_neg (by omega), if_neg (by omega), if_neg hd, h2, u64i (n := b) (by omega) (by omega), u64i (n := (2 : Int)) (by decide) (by decide), put1 b (by omega) (by omega), put1 2 (by decide) (by decide)]
          simp only [Option.bind_some]
          rw [if_neg (show ¬ (2 : Int) = 4 by decide), if_pos trivial, if_pos (by rw [ba_size, ba_size]; omega), ba_append, if_pos (by rw [ba_size, ba_size, List.length_append]; omega), ba_append, if_pos trivial]
          rfl
    · simp only [plain, evb, everr]
      simp [script_put.j1, put1, u64i, ba_size, hz, happ]
      rw [enc_lt (by decide)]; simp
    · have h6 := hl 4 (by decide) (by decide)
      have h7 := hl c (by omega) (by omega)
      simp only [plain, evb, everr]
      simp [put1, u64i, ba_size, hz, ba_append, r2]
      simp only [Int.reduceToNat] at h6
      omega
    · simp only [plain, evb, everr]
      simp [script_put.j1, put1, u64i, ba_size, hz, happ]
      rw [enc_lt (by decide)]; simp
    · rw [show plain ⟨6, b, c, d⟩ = ⟨6, b, 0, (⟨#[]⟩ : ByteArray)⟩ from rfl, show evb ⟨6, b, c, d⟩ = enc 6 ++ enc b.toNat from rfl]
      have hE : everr ⟨6, b, c, d⟩ = if (b < 0 ∨ b > 15) then 1 else 0 := by unfold everr; simp
      rw [hE]
      simp only []
      by_cases hb : b < 0 ∨ b > 15
      · rw [if_pos hb]
        by_cases h1 : b < 0
        · rw [if_pos h1]; rfl
        · rw [if_neg h1, if_pos (by omega)]; rfl
      · have h5 := hl b (by omega) (by omega)
        have h6 := hl 6 (by decide) (by decide)
        rw [if_neg hb, if_neg (by omega), if_neg (by omega), if_neg (by rw [hz]; decide), u64i (n := (6 : Int)) (by decide) (by decide), put1 6 (by decide) (by decide)]
        simp only [Option.bind_some]
        rw [if_neg (show ¬ (6 : Int) = 4 by decide), if_neg (show ¬ (6 : Int) = 2 by decide), if_pos trivial]
        simp only [script_put.j1]
        rw [if_pos (show ((6 : Int) == 6) = true by decide), u64i (by omega) (by omega), put_f (n := b) (by omega) (by omega) (by omega)]
        simp only [Option.bind_some]
        rw [happ, if_pos (by rw [hz, ba_size]; omega), if_pos (by rw [ba_size, ba_size]; omega), ba_append, if_pos trivial]
        rfl
    · rw [show plain ⟨7, b, c, d⟩ = ⟨7, b, 0, (⟨#[]⟩ : ByteArray)⟩ from rfl, show evb ⟨7, b, c, d⟩ = enc 7 ++ enc b.toNat from rfl]
      have hE : everr ⟨7, b, c, d⟩ = if (b < 0 ∨ b > 15) then 1 else 0 := by unfold everr; simp
      rw [hE]
      simp only []
      by_cases hb : b < 0 ∨ b > 15
      · rw [if_pos hb]
        by_cases h1 : b < 0
        · rw [if_pos h1]; rfl
        · rw [if_neg h1, if_pos (by omega)]; rfl
      · have h5 := hl b (by omega) (by omega)
        have h6 := hl 7 (by decide) (by decide)
        rw [if_neg hb, if_neg (by omega), if_neg (by omega), if_neg (by rw [hz]; decide), u64i (n := (7 : Int)) (by decide) (by decide), put1 7 (by decide) (by decide)]
        simp only [Option.bind_some]
        rw [if_neg (show ¬ (7 : Int) = 4 by decide), if_neg (show ¬ (7 : Int) = 2 by decide), if_neg (show ¬ (7 : Int) = 6 by decide)]
        simp only [script_put.j1]
        rw [if_pos (show ((7 : Int) == 7) = true by decide), u64i (by omega) (by omega), put_f (n := b) (by omega) (by omega) (by omega)]
        simp only [Option.bind_some]
        rw [happ, if_pos (by rw [hz, ba_size]; omega), if_pos (by rw [ba_size, ba_size]; omega), ba_append, if_pos trivial]
        rfl
def sfin (out : ByteArray) (r : List UInt8 × Int) : ByteArray × Int := if r.2 = 0 then (out ++ ba r.1, 0) else ((⟨#[]⟩ : ByteArray), r.2)
theorem sfin_ok {v : S24} (he : everr v = 0) (out : ByteArray) (r : List S24) : sfin (out ++ ba (evb v)) (sgo r) = sfin out (sgo (v :: r)) := by
  have e : sgo (v :: r) = if (sgo r).2 = 0 then (evb v ++ (sgo r).1, 0) else ([], (sgo r).2) := by simp only [sgo]; rw [if_pos he]
  rw [e]
  unfold sfin
  by_cases h2 : (sgo r).2 = 0
  · rw [if_pos h2, if_pos h2]; simp only [if_true]; rw [ByteArray.append_assoc, ba_append]
  · rw [if_neg h2, if_neg h2]; simp only []; rw [if_neg h2]
theorem sfin_err {v : S24} (he : ¬ everr v = 0) (out : ByteArray) (r : List S24) : sfin out (sgo (v :: r)) = ((⟨#[]⟩ : ByteArray), everr v) := by
  have e : sgo (v :: r) = ([], everr v) := by simp only [sgo]; rw [if_neg he]
  rw [e]
  unfold sfin
  simp only []; rw [if_neg he]
theorem sfin_nil (out : ByteArray) : sfin out (sgo []) = (out, 0) := by
  unfold sfin; simp only [sgo, if_true]
  rw [show ba [] = ByteArray.empty from rfl, ByteArray.append_empty]
theorem sfin_empty (l : List S24) : sfin (⟨#[]⟩ : ByteArray) (sgo l) = (ba (sgo l).1, (sgo l).2) := by
  unfold sfin
  by_cases h0 : (sgo l).2 = 0
  · rw [if_pos h0, h0, show (⟨#[]⟩ : ByteArray) = ByteArray.empty from rfl, ByteArray.empty_append]
  · rw [if_neg h0, sgo_err l h0]; rfl
theorem sput_size {v : S24} (h : everr v = 0) (hw : Wf v) : (ba (evb v)).size ≤ 1048616 := by rw [ba_size]; exact evb_len h hw
theorem sPut_l0 (l : List S24) (hw : ∀ v ∈ l, Wf v) (h1024 : l.length ≤ 1024) (d : Nat) : ∀ (k i : Nat) (out : ByteArray), i + d = l.length → out.size ≤ i * 2097152 → d + 40 ≤ k →
    script_Put.l0 k out l (l.length : Int) (i : Int) = some (sfin out (sgo (l.drop i))) := by
  induction d with
  | zero =>
    intro k i out hi ho hk
    obtain ⟨k, rfl⟩ : ∃ j, k = j + 1 := ⟨k - 1, by omega⟩
    rw [script_Put.l0, if_neg (by omega), List.drop_of_length_le (by omega), sfin_nil]
  | succ d ih =>
    intro k i out hi ho hk
    obtain ⟨k, rfl⟩ : ∃ j, k = j + 1 := ⟨k - 1, by omega⟩
    have hil : i < l.length := by omega
    have hv := hw _ (memS hil)
    rw [script_Put.l0, if_pos (by omega), if_pos (by omega), if_pos (by omega), sput_f _ hv (by omega), dropS hil]
    simp only [Option.bind_some]
    generalize rd_T24 l (i : Int) = v at *
    unfold sput
    by_cases he : everr v = 0
    · have hz := sput_size he hv
      rw [if_pos he]
      simp only [if_true]
      rw [if_pos (by omega), w64 (by omega) (by omega), show ((i : Int) + 1) = ((i + 1 : Nat) : Int) from rfl, ih k (i + 1) _ (by omega) (by rw [ByteArray.size_append]; omega) (by omega), sfin_ok he]
    · rw [if_neg he, sfin_err he]
      simp only []
      rw [if_neg he]
theorem sPut_f (l : List S24) (hw : ∀ v ∈ l, Wf v) {k : Nat} (hk : 1100 ≤ k) : script_Put.f k l = some (if l.length > 1024 then ((⟨#[]⟩ : ByteArray), 3) else (ba (sgo l).1, (sgo l).2)) := by
  unfold script_Put.f
  by_cases h : l.length > 1024
  · rw [if_pos (by omega), if_pos h]
  · rw [if_neg (by omega), if_neg h]
    have := sPut_l0 l hw (by omega) l.length k 0 (⟨#[]⟩ : ByteArray) (by omega) (by show ByteArray.size ByteArray.empty ≤ _; rw [ByteArray.size_empty]; omega) (by omega)
    rw [show ((0 : Nat) : Int) = 0 from rfl, List.drop_zero] at this
    rw [this, sfin_empty]
theorem awake_f {k : Nat} (hk : 1100 ≤ k) : concourselaw43_awake.f k = some true := by
  unfold concourselaw43_awake.f
  have hw : ∀ v ∈ ([(⟨1, 0, 0, (⟨#[]⟩ : ByteArray)⟩ : S24), (⟨2, 0, 0, (⟨#[97, 98]⟩ : ByteArray)⟩ : S24)] : List S24), Wf v := by
    intro v hv
    rcases List.mem_cons.1 hv with rfl | hv
    · exact ⟨by decide, by decide, by decide⟩
    · rcases List.mem_cons.1 hv with rfl | hv
      · exact ⟨by decide, by decide, by decide⟩
      · simp at hv
  have e : sgo [(⟨1, 0, 0, (⟨#[]⟩ : ByteArray)⟩ : S24), (⟨2, 0, 0, (⟨#[97, 98]⟩ : ByteArray)⟩ : S24)] = ([1, 2, 0, 2, 97, 98], 0) := by
    have e1 : everr ⟨1, 0, 0, (⟨#[]⟩ : ByteArray)⟩ = 0 := by unfold everr; decide
    have e2 : everr ⟨2, 0, 0, (⟨#[97, 98]⟩ : ByteArray)⟩ = 0 := by unfold everr; decide
    simp only [sgo]
    rw [if_pos e1, if_pos e2, if_pos trivial]
    simp only [if_true, List.append_nil]
    have f1 : evb ⟨1, 0, 0, (⟨#[]⟩ : ByteArray)⟩ = enc 1 ++ [] := rfl
    have f2 : evb ⟨2, 0, 0, (⟨#[97, 98]⟩ : ByteArray)⟩ = enc 2 ++ (enc 0 ++ (enc 2 ++ [97, 98])) := rfl
    rw [f1, f2, enc_lt (n := 1) (by decide), enc_lt (n := 2) (by decide), enc_lt (n := 0) (by decide)]
    rfl
  rw [sPut_f _ hw hk, if_neg (by decide), e]
  simp only [Option.bind_some]
  rw [if_pos trivial, ba_toList]
  rfl
/-- A number, no greater than a most, and what stands behind it. -/
def snum (l : List UInt8) (most beyond : Int) : Int × List UInt8 × Int :=
  if (tkI l).2.2 = 0 then (if (tkI l).1 > most then (0, l, beyond) else ((tkI l).1, l.drop (tkI l).2.1.toNat, 0)) else (0, l, (tkI l).2.2)
/-- An event, and what stands behind it; or what is wrong. -/
def stk (l : List UInt8) : S24 × List UInt8 × Int :=
  if (snum l 7 4).2.2 = 0 then
    (if (snum l 7 4).1 = 0 then (z24, [], 4)
     else if (snum l 7 4).1 = 4 then
       (if (snum (snum l 7 4).2.1 18446744073709551615 0).2.2 = 0 then (⟨4, 0, (snum (snum l 7 4).2.1 18446744073709551615 0).1, (⟨#[]⟩ : ByteArray)⟩, (snum (snum l 7 4).2.1 18446744073709551615 0).2.1, 0)
        else (z24, [], (snum (snum l 7 4).2.1 18446744073709551615 0).2.2))
     else if (snum l 7 4).1 = 2 ∨ (snum l 7 4).1 = 6 ∨ (snum l 7 4).1 = 7 then
       (if (snum (snum l 7 4).2.1 15 3).2.2 = 0 then
          (if (snum l 7 4).1 = 2 then
             (if (stake (snum (snum l 7 4).2.1 15 3).2.1 1048576).2.2 = 0 then
                (⟨2, (snum (snum l 7 4).2.1 15 3).1, 0, (stake (snum (snum l 7 4).2.1 15 3).2.1 1048576).1⟩, (snum (snum l 7 4).2.1 15 3).2.1.drop (stake (snum (snum l 7 4).2.1 15 3).2.1 1048576).2.1.toNat, 0)
              else (z24, [], (stake (snum (snum l 7 4).2.1 15 3).2.1 1048576).2.2))
           else (⟨(snum l 7 4).1, (snum (snum l 7 4).2.1 15 3).1, 0, (⟨#[]⟩ : ByteArray)⟩, (snum (snum l 7 4).2.1 15 3).2.1, 0))
        else (z24, [], (snum (snum l 7 4).2.1 15 3).2.2))
     else (⟨(snum l 7 4).1, 0, 0, (⟨#[]⟩ : ByteArray)⟩, (snum l 7 4).2.1, 0))
  else (z24, [], (snum l 7 4).2.2)
/-- The events of bytes, c at the most. -/
def sall : Nat → List UInt8 → List S24 × Int
  | 0, l => if l = [] then ([], 0) else ([], 3)
  | c + 1, l =>
    if l = [] then ([], 0)
    else if (stk l).2.2 = 0 then (if (sall c (stk l).2.1).2 = 0 then ((stk l).1 :: (sall c (stk l).2.1).1, 0) else ([], (sall c (stk l).2.1).2))
    else ([], (stk l).2.2)
def sgin (m : List S24) (r : List S24 × Int) : List S24 × Int := if r.2 = 0 then (m ++ r.1, 0) else ([], r.2)
theorem snum_ok {l : List UInt8} {most beyond : Int} (hb : most < 18446744073709551615 → beyond ≠ 0) (h : (snum l most beyond).2.2 = 0) :
    0 ≤ (snum l most beyond).1 ∧ (snum l most beyond).1 ≤ most ∧ (snum l most beyond).1 < 18446744073709551616 ∧ l = enc (snum l most beyond).1.toNat ++ (snum l most beyond).2.1 ∧ (snum l most beyond).2.1.length ≤ l.length := by
  unfold snum at h ⊢
  by_cases h1 : (tkI l).2.2 = 0
  · rw [if_pos h1] at h ⊢
    obtain ⟨n, k, e, e1, e2, e3, e4, e5, e6⟩ := tkI_ok h1
    by_cases h2 : (tkI l).1 > most
    · rw [if_pos h2] at h
      rw [e] at h2
      simp only [] at h h2
      exact absurd h (hb (by omega))
    · rw [if_neg h2]
      rw [e] at h2 ⊢
      simp only [Int.toNat_natCast] at h2 ⊢
      refine ⟨by omega, by omega, by omega, ?_, by rw [List.length_drop]; omega⟩
      rw [← e1, List.take_append_drop]
  · rw [if_neg h1] at h; exact absurd h h1
theorem snum_put {n : Nat} {most beyond : Int} (hn : n < 18446744073709551616) (hm : (n : Int) ≤ most) (r : List UInt8) : snum (enc n ++ r) most beyond = ((n : Int), r, 0) := by
  unfold snum
  rw [tkI_enc hn]
  simp only [if_true, Int.toNat_natCast]
  rw [if_neg (by omega), drop_len _ _ rfl]
theorem snum_len (l : List UInt8) (most beyond : Int) : (snum l most beyond).2.1.length ≤ l.length := by
  unfold snum; split
  · split
    · exact Nat.le_refl _
    · simp only [List.length_drop]; omega
  · exact Nat.le_refl _
theorem stake_put (s : ByteArray) (hs : s.size ≤ 1048576) (r : List UInt8) : stake (span s ++ r) 1048576 = (s, ((span s).length : Int), 0) := by
  have hl := span_size s
  have he := enc_len10 (n := s.size) (by omega)
  have ht : tkI (span s ++ r) = ((s.size : Int), ((enc s.size).length : Int), 0) := by unfold span; rw [List.append_assoc]; exact tkI_enc (by omega) _
  unfold stake
  rw [ht]
  simp only [if_true]
  rw [if_neg (by unfold mx; split <;> omega), if_neg (by rw [List.length_append]; omega), Int.toNat_natCast, Int.toNat_natCast]
  have : ba (((span s ++ r).drop (enc s.size).length).take s.size) = s := by
    unfold span
    rw [List.append_assoc, drop_len _ _ rfl, take_len _ _ (by rw [← size_len]), ba_eta]
  rw [this, hl]; rfl
theorem stake_ok {l : List UInt8} (h : (stake l 1048576).2.2 = 0) : (stake l 1048576).1.size ≤ 1048576 ∧ l = span (stake l 1048576).1 ++ l.drop (stake l 1048576).2.1.toNat ∧ 0 ≤ (stake l 1048576).2.1 ∧ (stake l 1048576).2.1 ≤ l.length := by
  unfold stake at h ⊢
  by_cases h1 : (tkI l).2.2 = 0
  · rw [if_pos h1] at h ⊢
    obtain ⟨n, k, e, e1, e2, e3, e4, e5, e6⟩ := tkI_ok h1
    by_cases h2 : (tkI l).1 > mx 1048576 0
    · rw [if_pos h2] at h; exact absurd h (by simp)
    · rw [if_neg h2] at h ⊢
      by_cases h3 : (tkI l).1 > (l.length : Int) - (tkI l).2.1
      · rw [if_pos h3] at h; exact absurd h (by simp)
      · rw [if_neg h3]
        rw [e] at h2 h3 ⊢
        simp only [Int.toNat_natCast] at h2 h3 ⊢
        have hmx : mx 1048576 0 = 1048576 := rfl
        rw [hmx] at h2
        have hlen : ((l.drop k).take n).length = n := by rw [List.length_take, List.length_drop]; omega
        refine ⟨by rw [ba_size]; omega, ?_, by omega, by omega⟩
        unfold span
        rw [ba_size, hlen, ba_data, show ((k : Int) + (n : Int)).toNat = k + n by omega, ← e1, ← List.drop_drop, List.append_assoc, List.take_append_drop, List.take_append_drop]
  · rw [if_neg h1] at h; exact absurd h h1
/-- What is put is taken. -/
theorem stk_put (v : S24) (he : everr v = 0) (hw : Wf v) (r : List UInt8) : stk (evb v ++ r) = (plain v, r, 0) := by
  obtain ⟨a, b, c, d⟩ := v
  have h0 := everr_kind he
  obtain ⟨h1, h2⟩ := everr_rest he
  have r2 := wf_u64 hw.2.2
  simp only at h0 h1 h2 r2
  have hk : ∀ t : List UInt8, snum (enc a.toNat ++ t) 7 4 = (a, t, 0) := fun t => by rw [snum_put (by omega) (by omega), Int.toNat_of_nonneg (by omega)]
  rcases kinds h0 with rfl | rfl | rfl | rfl | rfl | rfl | rfl
  · rw [show evb ⟨1, b, c, d⟩ = enc (1 : Int).toNat ++ [] from rfl, List.append_nil]
    unfold stk; rw [hk]; rfl
  · have h1 := h1 (.inl rfl)
    have h2 := h2 rfl
    rw [show evb ⟨2, b, c, d⟩ = enc (2 : Int).toNat ++ (enc b.toNat ++ span d) from rfl, List.append_assoc, List.append_assoc]
    have hb : snum (enc b.toNat ++ (span d ++ r)) 15 3 = (b, span d ++ r, 0) := by rw [snum_put (by omega) (by omega), Int.toNat_of_nonneg (by omega)]
    unfold stk; rw [hk]
    simp only [if_true]
    rw [if_neg (by decide), if_neg (by decide), if_pos (by decide), hb]
    simp only [if_true]
    rw [stake_put d h2]
    simp only [if_true, Int.toNat_natCast]
    rw [drop_len _ _ rfl]; rfl
  · rw [show evb ⟨3, b, c, d⟩ = enc (3 : Int).toNat ++ [] from rfl, List.append_nil]
    unfold stk; rw [hk]; rfl
  · rw [show evb ⟨4, b, c, d⟩ = enc (4 : Int).toNat ++ enc c.toNat from rfl, List.append_assoc]
    have hc : snum (enc c.toNat ++ r) 18446744073709551615 0 = (c, r, 0) := by rw [snum_put (by omega) (by omega), Int.toNat_of_nonneg (by omega)]
    unfold stk; rw [hk]
    simp only [if_true]
    rw [if_neg (by decide), hc]
    rfl
  · rw [show evb ⟨5, b, c, d⟩ = enc (5 : Int).toNat ++ [] from rfl, List.append_nil]
    unfold stk; rw [hk]; rfl
  · have h1 := h1 (.inr (.inl rfl))
    rw [show evb ⟨6, b, c, d⟩ = enc (6 : Int).toNat ++ enc b.toNat from rfl, List.append_assoc]
    have hb : snum (enc b.toNat ++ r) 15 3 = (b, r, 0) := by rw [snum_put (by omega) (by omega), Int.toNat_of_nonneg (by omega)]
    unfold stk; rw [hk]
    simp only [if_true]
    rw [if_neg (by decide), if_neg (by decide), if_pos (by decide), hb]
    rfl
  · have h1 := h1 (.inr (.inr rfl))
    rw [show evb ⟨7, b, c, d⟩ = enc (7 : Int).toNat ++ enc b.toNat from rfl, List.append_assoc]
    have hb : snum (enc b.toNat ++ r) 15 3 = (b, r, 0) := by rw [snum_put (by omega) (by omega), Int.toNat_of_nonneg (by omega)]
    unfold stk; rw [hk]
    simp only [if_true]
    rw [if_neg (by decide), if_neg (by decide), if_pos (by decide), hb]
    rfl
/-- What is taken is put so. -/
theorem stk_ok (l : List UInt8) (h : (stk l).2.2 = 0) : l = evb (stk l).1 ++ (stk l).2.1 ∧ everr (stk l).1 = 0 ∧ plain (stk l).1 = (stk l).1 ∧ Wf (stk l).1 := by
  have wfi : ∀ n : Int, 0 ≤ n → n ≤ 15 → (Lit.int .i64 n).wf = true := fun n h0 h1 => by simp [Lit.wf, IntKind.min, IntKind.max, IntKind.signed, IntKind.bits]; omega
  have wfu : ∀ n : Int, 0 ≤ n → n < 18446744073709551616 → (Lit.int .u64 n).wf = true := fun n h0 h1 => by simp [Lit.wf, IntKind.min, IntKind.max, IntKind.signed, IntKind.bits]; omega
  unfold stk at h ⊢
  by_cases h1 : (snum l 7 4).2.2 = 0
  · rw [if_pos h1] at h ⊢
    obtain ⟨a0, a1, a2, a3, _⟩ := snum_ok (fun _ => by decide) h1
    generalize snum l 7 4 = A at *
    obtain ⟨a, t, ea⟩ := A
    simp only at h1 a0 a1 a2 a3 h ⊢
    by_cases h2 : a = 0
    · rw [if_pos h2] at h; exact absurd h (by simp)
    · rw [if_neg h2] at h ⊢
      by_cases h3 : a = 4
      · subst h3
        rw [if_pos rfl] at h ⊢
        by_cases h4 : (snum t 18446744073709551615 0).2.2 = 0
        · rw [if_pos h4]
          obtain ⟨b0, b1, b2, b3, _⟩ := snum_ok (fun hh => absurd hh (by decide)) h4
          generalize snum t 18446744073709551615 0 = B at *
          obtain ⟨b, u, eb⟩ := B
          simp only at b0 b1 b2 b3 ⊢
          refine ⟨?_, by unfold everr; simp, rfl, wfi 4 (by decide) (by decide), wfi 0 (by decide) (by decide), wfu b b0 b2⟩
          rw [show evb ⟨4, 0, b, (⟨#[]⟩ : ByteArray)⟩ = enc (4 : Int).toNat ++ enc b.toNat from rfl, List.append_assoc, ← b3, ← a3]
        · rw [if_neg h4] at h; exact absurd h h4
      · rw [if_neg h3] at h ⊢
        by_cases h5 : a = 2 ∨ a = 6 ∨ a = 7
        · rw [if_pos h5] at h ⊢
          by_cases h4 : (snum t 15 3).2.2 = 0
          · rw [if_pos h4] at h ⊢
            obtain ⟨b0, b1, b2, b3, _⟩ := snum_ok (fun _ => by decide) h4
            generalize snum t 15 3 = B at *
            obtain ⟨b, u, eb⟩ := B
            simp only at h4 b0 b1 b2 b3 h ⊢
            by_cases h6 : a = 2
            · subst h6
              rw [if_pos rfl] at h ⊢
              by_cases h7 : (stake u 1048576).2.2 = 0
              · rw [if_pos h7]
                obtain ⟨s1, s2, s3, s4⟩ := stake_ok h7
                generalize stake u 1048576 = C at *
                obtain ⟨s, n, ec⟩ := C
                simp only at s1 s2 s3 s4 ⊢
                refine ⟨?_, ?_, rfl, wfi 2 (by decide) (by decide), wfi b b0 b1, wfu 0 (by decide) (by decide)⟩
                · rw [show evb ⟨2, b, 0, s⟩ = enc (2 : Int).toNat ++ (enc b.toNat ++ span s) from rfl, List.append_assoc, List.append_assoc, ← s2, ← b3, ← a3]
                · unfold everr; rw [if_neg (by simp)]; simp; omega
              · rw [if_neg h7] at h; exact absurd h h7
            · rw [if_neg h6]
              refine ⟨?_, ?_, ?_, wfi a a0 (by omega), wfi b b0 b1, wfu 0 (by decide) (by decide)⟩
              · have : evb ⟨a, b, 0, (⟨#[]⟩ : ByteArray)⟩ = enc a.toNat ++ enc b.toNat := by
                  unfold evb; simp only []; rw [if_neg h3, if_neg h6, if_pos (by omega)]
                simp only []
                rw [this, List.append_assoc, ← b3, ← a3]
              · unfold everr; simp only []; rw [if_neg (by omega), if_neg (by omega)]
              · unfold plain; simp only []; rw [if_pos h5, if_neg h3, if_neg h6]
          · rw [if_neg h4] at h; exact absurd h h4
        · rw [if_neg h5]
          refine ⟨?_, ?_, ?_, wfi a a0 (by omega), wfi 0 (by decide) (by decide), wfu 0 (by decide) (by decide)⟩
          · have : evb ⟨a, 0, 0, (⟨#[]⟩ : ByteArray)⟩ = enc a.toNat ++ [] := by
              unfold evb; simp only []; rw [if_neg h3, if_neg (by omega), if_neg (by omega)]
            simp only []
            rw [this, List.append_nil, ← a3]
          · unfold everr; simp only []; rw [if_neg (by omega), if_neg (by omega)]
          · unfold plain; simp only []; rw [if_neg h5, if_neg h3, if_neg (by omega)]
  · rw [if_neg h1] at h; exact absurd h h1
theorem evb_pos (v : S24) : evb v ≠ [] := by
  intro h
  have := congrArg List.length h
  have h2 := enc_pos v.f0.toNat
  unfold evb at this
  rw [List.length_append, List.length_nil] at this; omega
theorem sgo_nil_err {v : S24} {r : List S24} (h : (sgo (v :: r)).2 = 0) : everr v = 0 ∧ (sgo r).2 = 0 ∧ (sgo (v :: r)).1 = evb v ++ (sgo r).1 := by
  simp only [sgo] at h ⊢
  by_cases h1 : everr v = 0
  · rw [if_pos h1] at h ⊢
    by_cases h2 : (sgo r).2 = 0
    · rw [if_pos h2]; exact ⟨h1, h2, rfl⟩
    · rw [if_neg h2] at h; exact absurd h h2
  · rw [if_neg h1] at h; exact absurd h h1
/-- A script that is put is taken. -/
theorem sall_put : ∀ (l : List S24) (c : Nat), l.length ≤ c → (∀ v ∈ l, Wf v) → (sgo l).2 = 0 → sall c (sgo l).1 = (l.map plain, 0) := by
  intro l
  induction l with
  | nil => intro c _ _ _; cases c <;> simp [sall, sgo]
  | cons v r ih =>
    intro c hc hw h
    obtain ⟨h1, h2, h3⟩ := sgo_nil_err h
    obtain ⟨c, rfl⟩ : ∃ j, c = j + 1 := ⟨c - 1, by simp at hc; omega⟩
    rw [h3]
    simp only [sall]
    rw [if_neg (by intro e; exact evb_pos v (List.append_eq_nil_iff.1 e).1), stk_put v h1 (hw v (by simp))]
    simp only [if_true]
    rw [ih c (by simpa using hc) (fun x hx => hw x (by simp [hx])) h2]
    simp
/-- A script that is taken is put so. -/
theorem sall_ok : ∀ (c : Nat) (l : List UInt8), (sall c l).2 = 0 → (sgo (sall c l).1).1 = l ∧ (sgo (sall c l).1).2 = 0 ∧ (sall c l).1.length ≤ c ∧ ∀ v ∈ (sall c l).1, Wf v := by
  intro c
  induction c with
  | zero =>
    intro l h
    simp only [sall] at h ⊢
    by_cases h1 : l = []
    · rw [if_pos h1]; simp [sgo, h1]
    · rw [if_neg h1] at h; exact absurd h (by decide)
  | succ c ih =>
    intro l h
    simp only [sall] at h ⊢
    by_cases h1 : l = []
    · rw [if_pos h1]; simp [sgo, h1]
    · rw [if_neg h1] at h ⊢
      by_cases h2 : (stk l).2.2 = 0
      · rw [if_pos h2] at h ⊢
        by_cases h3 : (sall c (stk l).2.1).2 = 0
        · rw [if_pos h3]
          obtain ⟨e1, e2, e3, e4⟩ := stk_ok l h2
          obtain ⟨g1, g2, g3, g4⟩ := ih _ h3
          have hs : sgo ((stk l).1 :: (sall c (stk l).2.1).1) = (evb (stk l).1 ++ (stk l).2.1, 0) := by
            simp only [sgo]; rw [if_pos e2, if_pos g2, g1]
          simp only []
          rw [hs, ← e1]
          refine ⟨rfl, rfl, by simp only [List.length_cons]; omega, fun v hv => ?_⟩
          rcases List.mem_cons.1 hv with rfl | hv
          · exact e4
          · exact g4 v hv
        · rw [if_neg h3] at h; exact absurd h h3
      · rw [if_neg h2] at h; exact absurd h h2
theorem sall_err (c : Nat) (l : List UInt8) : (sall c l).2 ≠ 0 → (sall c l).1 = [] := by
  cases c with
  | zero => simp only [sall]; split <;> intro h <;> first | rfl | exact absurd rfl h
  | succ c => simp only [sall]; (repeat' split) <;> intro h <;> first | rfl | exact absurd rfl h
theorem ext_ba (s : ByteArray) {a : Int} (h0 : 0 ≤ a) : s.extract a.toNat s.size = ba (s.data.toList.drop a.toNat) := ba_ext (by rw [Lib.extract_data, ba_data, List.take_of_length_le (by rw [List.length_drop, size_len]; omega)])
theorem number_f (s : ByteArray) (most beyond : Int) {k : Nat} (hk : 31 ≤ k) : script_number.f k s most beyond = some ((snum s.data.toList most beyond).1, ba (snum s.data.toList most beyond).2.1, (snum s.data.toList most beyond).2.2) := by
  have hr := tkI_range s.data.toList
  have hl := size_len s
  unfold script_number.f snum
  rw [take_f s hk]
  simp only [Option.bind_some]
  by_cases h : (tkI s.data.toList).2.2 = 0
  · rw [if_pos h, if_pos h]
    by_cases h1 : (tkI s.data.toList).1 > most
    · rw [if_pos h1, if_pos h1, ba_eta]
    · rw [if_neg h1, if_neg h1, if_pos (by omega), if_pos (by omega), ext_ba s (by omega)]
  · rw [if_neg h, if_neg h, ba_eta]
theorem stake_rng (l : List UInt8) (m : Int) : 0 ≤ (stake l m).2.1 ∧ (stake l m).2.1 ≤ l.length := by
  have hr := tkI_range l
  unfold stake
  (repeat' split) <;> simp only [] <;> omega
/-- script.take: what it answers, as the list says it. -/
theorem stake43_j0 (t : List UInt8) (ht : t.length < 9223372036854775808) (a : Int) (ha : a = 2 ∨ a = 6 ∨ a = 7) {k : Nat} (hk : 31 ≤ k) :
    script_take.j0 (k + 1) (ba t) a 0 0 (⟨#[]⟩ : ByteArray) = some (
      if (snum t 15 3).2.2 = 0 then (if a = 2 then (2, (snum t 15 3).1, 0, (stake (snum t 15 3).2.1 1048576).1, ba ((snum t 15 3).2.1.drop (stake (snum t 15 3).2.1 1048576).2.1.toNat), (stake (snum t 15 3).2.1 1048576).2.2)
          else (a, (snum t 15 3).1, 0, (⟨#[]⟩ : ByteArray), ba (snum t 15 3).2.1, (snum t 15 3).2.2))
      else (a, wrap64 (snum t 15 3).1, 0, (⟨#[]⟩ : ByteArray), ba (snum t 15 3).2.1, (snum t 15 3).2.2)) := by
  simp only [script_take.j0]
  have hlen := snum_len t 15 3
  rw [number_f _ _ _ hk, ba_data]
  simp only [Option.bind_some]
  by_cases h4 : (snum t 15 3).2.2 = 0
  · rw [if_pos h4, if_pos h4]
    obtain ⟨b0, b1, b2, b3, _⟩ := snum_ok (fun _ => by decide) h4
    generalize snum t 15 3 = B at *
    obtain ⟨b, u, eb⟩ := B
    simp only at h4 b0 b1 b2 b3 hlen ⊢
    by_cases h6 : a = 2
    · subst h6
      have hs := stake_rng u 1048576
      rw [if_pos rfl, stake_f _ (by decide) (by decide) (by rw [ba_size]; omega) hk, ba_data]
      simp only [Option.bind_some]
      rw [if_pos hs.1, if_pos (by rw [ba_size]; omega), ext_ba _ hs.1, ba_data, w64 (by omega) (by omega), if_pos trivial]
    · rw [if_neg h6, if_neg h6, w64 (by omega) (by omega)]
  · rw [if_neg h4, if_neg h4]
theorem take43_f (s : ByteArray) (hs : s.size < 9223372036854775808) {k : Nat} (hk : 32 ≤ k) : ∃ (v : S24) (b : ByteArray), script_take.f k s = some (v.f0, v.f1, v.f2, v.f3, b, (stk s.data.toList).2.2) ∧ ((stk s.data.toList).2.2 = 0 → v = (stk s.data.toList).1 ∧ b = ba (stk s.data.toList).2.1) := by
  obtain ⟨k, rfl⟩ : ∃ j, k = j + 1 := ⟨k - 1, by omega⟩
  have hlen := snum_len s.data.toList 7 4
  have hsl := size_len s
  unfold script_take.f
  rw [number_f _ _ _ (by omega)]
  simp only [Option.bind_some]
  unfold stk
  by_cases h1 : (snum s.data.toList 7 4).2.2 = 0
  · rw [if_pos h1, if_pos h1]
    obtain ⟨a0, a1, a2, a3, _⟩ := snum_ok (fun _ => by decide) h1
    generalize snum s.data.toList 7 4 = A at *
    obtain ⟨a, t, ea⟩ := A
    simp only at h1 a0 a1 a2 a3 hlen ⊢
    rw [w64 (by omega) (by omega)]
    by_cases h2 : a = 0
    · rw [if_pos h2, if_pos h2]; exact ⟨⟨a, 0, 0, (⟨#[]⟩ : ByteArray)⟩, _, rfl, fun h => absurd h (by simp)⟩
    · rw [if_neg h2, if_neg h2]
      by_cases h3 : a = 4
      · subst h3
        rw [if_pos rfl, if_pos rfl, number_f _ _ _ (by omega), ba_data]
        simp only [Option.bind_some]
        by_cases h4 : (snum t 18446744073709551615 0).2.2 = 0
        · rw [if_pos h4, h4]; exact ⟨⟨4, 0, _, (⟨#[]⟩ : ByteArray)⟩, _, rfl, fun _ => ⟨rfl, rfl⟩⟩
        · rw [if_neg h4]; exact ⟨⟨4, 0, _, (⟨#[]⟩ : ByteArray)⟩, _, rfl, fun h => absurd h h4⟩
      · rw [if_neg h3, if_neg h3]
        by_cases h5 : a = 2 ∨ a = 6 ∨ a = 7
        · have hj := stake43_j0 t (by omega) a h5 (k := k) (by omega)
          have hsel : (if a = 2 then script_take.j0 (k + 1) (ba t) a 0 0 (⟨#[]⟩ : ByteArray) else (if a = 6 then script_take.j0 (k + 1) (ba t) a 0 0 (⟨#[]⟩ : ByteArray) else (if a = 7 then script_take.j0 (k + 1) (ba t) a 0 0 (⟨#[]⟩ : ByteArray) else (some (a, 0, 0, (⟨#[]⟩ : ByteArray), ba t, 0))))) = script_take.j0 (k + 1) (ba t) a 0 0 (⟨#[]⟩ : ByteArray) := by
            rcases h5 with rfl | rfl | rfl <;> rfl
          rw [hsel, hj, if_pos h5]
          by_cases h4 : (snum t 15 3).2.2 = 0
          · rw [if_pos h4, if_pos h4]
            by_cases h6 : a = 2
            · rw [if_pos h6, if_pos h6]
              by_cases h7 : (stake (snum t 15 3).2.1 1048576).2.2 = 0
              · rw [if_pos h7, h7]; exact ⟨⟨2, _, 0, _⟩, _, rfl, fun _ => ⟨rfl, rfl⟩⟩
              · rw [if_neg h7]; exact ⟨⟨2, _, 0, _⟩, _, rfl, fun h => absurd h h7⟩
            · rw [if_neg h6, if_neg h6, h4]; exact ⟨⟨a, _, 0, _⟩, _, rfl, fun _ => ⟨rfl, rfl⟩⟩
          · rw [if_neg h4, if_neg h4]; exact ⟨⟨a, _, 0, _⟩, _, rfl, fun h => absurd h h4⟩
        · rw [if_neg h5, if_neg (by omega), if_neg (by omega), if_neg (by omega)]
          exact ⟨⟨a, 0, 0, _⟩, _, rfl, fun _ => ⟨rfl, rfl⟩⟩
  · rw [if_neg h1, if_neg h1]; exact ⟨⟨_, 0, 0, _⟩, _, rfl, fun h => absurd h h1⟩
theorem stk_len (l : List UInt8) (h : (stk l).2.2 = 0) : (stk l).2.1.length < l.length := by
  obtain ⟨e, _⟩ := stk_ok l h
  have := congrArg List.length e
  have h2 := enc_pos (stk l).1.f0.toNat
  rw [List.length_append] at this
  have h3 : 1 ≤ (evb (stk l).1).length := by unfold evb; rw [List.length_append]; omega
  omega
theorem sgin_step (m : List S24) (v : S24) (r : List S24 × Int) : sgin (m ++ [v]) r = sgin m (if r.2 = 0 then (v :: r.1, 0) else ([], r.2)) := by
  unfold sgin
  by_cases h : r.2 = 0
  · rw [if_pos h, if_pos h]; simp
  · rw [if_neg h, if_neg h]; simp only []; rw [if_neg h]
theorem sTake_l0 (c : Nat) : ∀ (k : Nat) (s : ByteArray) (m : List S24), s.size < 9223372036854775808 → m.length + c = 1024 → c + 40 ≤ k → script_Take.l0 k s m = some (sgin m (sall c s.data.toList)) := by
  induction c with
  | zero =>
    intro k s m hs hm hk
    obtain ⟨k, rfl⟩ : ∃ j, k = j + 1 := ⟨k - 1, by omega⟩
    rw [script_Take.l0, ByteArray.toList_eq]
    simp only [sall]
    by_cases h : s.data.toList = []
    · rw [if_pos h, if_pos h]; simp [sgin]
    · rw [if_neg h, if_neg h, if_pos (by omega)]; rfl
  | succ c ih =>
    intro k s m hs hm hk
    obtain ⟨k, rfl⟩ : ∃ j, k = j + 1 := ⟨k - 1, by omega⟩
    rw [script_Take.l0, ByteArray.toList_eq]
    simp only [sall]
    by_cases h : s.data.toList = []
    · rw [if_pos h, if_pos h]; simp [sgin]
    · obtain ⟨v, b, hf, hv⟩ := take43_f s hs (k := k) (by omega)
      rw [if_neg h, if_neg h, if_neg (by omega), hf]
      simp only [Option.bind_some]
      by_cases h2 : (stk s.data.toList).2.2 = 0
      · obtain ⟨rfl, rfl⟩ := hv h2
        have hl := stk_len _ h2
        rw [if_pos h2, if_pos h2, if_pos (by omega), ih k _ _ (by rw [ba_size]; rw [size_len] at hs; omega) (by simp; omega) (by omega), ba_data, sgin_step]
      · rw [if_neg h2, if_neg h2]; unfold sgin; simp only []; rw [if_neg h2]
theorem sTake_f (s : ByteArray) (hs : s.size < 9223372036854775808) {k : Nat} (hk : 1100 ≤ k) : script_Take.f k s = some (sall 1024 s.data.toList) := by
  unfold script_Take.f
  rw [sTake_l0 1024 k s [] hs rfl (by omega)]
  unfold sgin
  by_cases h : (sall 1024 s.data.toList).2 = 0
  · rw [if_pos h]
    generalize sall 1024 s.data.toList = r at *
    obtain ⟨a, b⟩ := r
    simp only at h; subst h; rfl
  · rw [if_neg h]
    have := sall_err 1024 _ h
    generalize sall 1024 s.data.toList = r at *
    obtain ⟨a, b⟩ := r
    simp only at this; subst this; rfl

/-- An event's bytes, n times. -/
def rep (v : S24) : Nat → List UInt8
  | 0 => []
  | n + 1 => evb v ++ rep v n
theorem rep_comm (v : S24) (n : Nat) : rep v n ++ evb v = evb v ++ rep v n := by
  induction n with
  | zero => simp [rep]
  | succ n ih => simp only [rep]; rw [List.append_assoc, ih]
theorem rep_len (v : S24) (n : Nat) : (rep v n).length = n * (evb v).length := by
  induction n with
  | zero => simp [rep]
  | succ n ih => simp only [rep, List.length_append]; rw [ih, Nat.add_mul, Nat.one_mul, Nat.add_comm]
theorem sgo_rep {v : S24} (he : everr v = 0) (n : Nat) : sgo (List.replicate n v) = (rep v n, 0) := by
  induction n with
  | zero => simp [sgo, rep]
  | succ n ih => rw [List.replicate_succ]; simp only [sgo]; rw [if_pos he, ih]; simp [rep]
theorem sall_many {v : S24} (he : everr v = 0) (hw : Wf v) : ∀ (c n : Nat), c < n → sall c (rep v n) = ([], 3) := by
  intro c
  induction c with
  | zero =>
    intro n hn
    obtain ⟨n, rfl⟩ : ∃ j, n = j + 1 := ⟨n - 1, by omega⟩
    have e : rep v (n + 1) = evb v ++ rep v n := rfl
    rw [e]
    simp only [sall]
    rw [if_neg (show ¬ evb v ++ rep v n = [] from fun e => evb_pos v (List.append_eq_nil_iff.1 e).1)]
  | succ c ih =>
    intro n hn
    obtain ⟨n, rfl⟩ : ∃ j, n = j + 1 := ⟨n - 1, by omega⟩
    have e : rep v (n + 1) = evb v ++ rep v n := rfl
    rw [e]
    simp only [sall]
    rw [if_neg (show ¬ evb v ++ rep v n = [] from fun e => evb_pos v (List.append_eq_nil_iff.1 e).1), stk_put v he hw]
    simp only [if_true]
    rw [ih n (by omega)]
    rfl
theorem many_l0 (v : S24) (he : everr v = 0) (hw : Wf v) (n : Nat) (hn : n ≤ 1064) (d : Nat) : ∀ (k i : Nat), i + d = n → d + 1300 ≤ k →
    concourselaw43_ScriptMany.l0 k (n : Int) (ba (evb v)) (List.replicate i v) (ba (rep v i)) (i : Int) v.f0 v.f1 v.f2 v.f3 = some true := by
  have hlen := evb_len he hw
  induction d with
  | zero =>
    intro k i hi hk
    obtain ⟨k, rfl⟩ : ∃ j, k = j + 1 := ⟨k - 1, by omega⟩
    obtain rfl : i = n := by omega
    have hwr : ∀ x ∈ List.replicate i v, Wf x := fun x hx => by rw [(List.mem_replicate.1 hx).2]; exact hw
    have hsz : (ba (rep v i)).size < 9223372036854775808 := by
      rw [ba_size, rep_len]
      have : i * (evb v).length ≤ 1064 * 1048616 := Nat.mul_le_mul hn hlen
      omega
    rw [concourselaw43_ScriptMany.l0, if_neg (by omega), sPut_f _ hwr (by omega), sTake_f _ hsz (by omega), ba_data, sgo_rep he, List.length_replicate]
    simp only [Option.bind_some]
    by_cases h : i > 1024
    · rw [if_pos h, if_pos (by omega), if_pos (by rw [ByteArray.toList_eq]), if_pos rfl, sall_many he hw 1024 i h, if_pos (by rfl), if_pos rfl, awake_f (by omega)]; rfl
    · have hs := sall_put (List.replicate i v) 1024 (by rw [List.length_replicate]; omega) hwr (by rw [sgo_rep he])
      rw [sgo_rep he] at hs
      rw [if_neg h, if_neg (by omega), if_pos rfl, if_pos rfl, hs, if_pos (by rw [List.length_map, List.length_replicate]), if_pos rfl, awake_f (by omega)]; rfl
  | succ d ih =>
    intro k i hi hk
    obtain ⟨k, rfl⟩ : ∃ j, k = j + 1 := ⟨k - 1, by omega⟩
    have hsz : (ba (rep v i)).size ≤ 1064 * 1048616 := by
      rw [ba_size, rep_len]
      exact Nat.mul_le_mul (by omega) hlen
    rw [concourselaw43_ScriptMany.l0, if_pos (by omega), if_pos (by rw [List.length_replicate]; omega), if_pos (by rw [ba_size (evb v)]; omega), w64 (by omega) (by omega), ba_append, rep_comm]
    have := ih k (i + 1) (by omega) (by omega)
    rw [List.replicate_succ'] at this
    exact this
theorem ScriptMany : ∀ (v : S24) (n : Int), Wf v → (Lit.int .i64 n).wf = true → ∃ k, concourselaw43_ScriptMany.f k v.f0 v.f1 v.f2 v.f3 n = some true := by
  intro v n hw hn
  have hn := wf_i64 hn
  obtain ⟨k, hk⟩ : ∃ k, 3000 ≤ k := ⟨3000, Nat.le_refl _⟩
  refine ⟨k, ?_⟩
  unfold concourselaw43_ScriptMany.f
  by_cases h : (v.f3.size : Int) > 200
  · rw [if_pos h, awake_f (by omega)]; rfl
  · have hw1 : ∀ x ∈ [v], Wf x := fun x hx => by rw [List.mem_singleton.1 hx]; exact hw
    rw [if_neg h, show (⟨v.f0, v.f1, v.f2, v.f3⟩ : S24) = v from rfl, sPut_f [v] hw1 (by omega), if_neg (by simp)]
    simp only [Option.bind_some]
    by_cases he : everr v = 0
    · have e : sgo [v] = (evb v, 0) := by simp only [sgo]; rw [if_pos he]; simp
      obtain ⟨N, hN, hx⟩ : ∃ N : Nat, N ≤ 1064 ∧ mx 0 (mn n 1064) = (N : Int) := ⟨(mx 0 (mn n 1064)).toNat, by unfold mx mn; split <;> split <;> omega, by unfold mx mn; split <;> split <;> omega⟩
      rw [e, if_pos rfl, hx]
      exact many_l0 v he hw N hN N k 0 (by omega) (by omega)
    · have e : sgo [v] = ([], everr v) := by simp only [sgo]; rw [if_neg he]
      rw [e]
      simp only []
      rw [if_neg he]
      by_cases h4 : everr v = 4
      · rw [if_pos h4, if_pos (by rw [ba_toList]), awake_f (by omega)]; rfl
      · have h1 : everr v = 1 := by
          unfold everr at he h4 ⊢
          split
          · rename_i hc; rw [if_pos hc] at h4; exact absurd rfl h4
          · rename_i hc; rw [if_neg hc] at he h4
            split
            · rfl
            · rename_i hd; rw [if_neg hd] at he; exact absurd rfl he
        rw [if_neg h4, if_pos h1, if_pos (by rw [ba_toList]), awake_f (by omega)]; rfl

end Go.Proofs.Ytklfpiapnhnhkaa.Pure
