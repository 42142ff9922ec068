/- For all events: script.Put and script.Plain answer as the document's functions do. Conditions: none but that each number is of its kind. -/
import Derived.Test.YtklfpiapnhnhkaaPScriptPutsx5
import Derived.Test.YtklfpiapnhnhkaaKM
namespace Go.Proofs.Ytklfpiapnhnhkaa.Pure
open Go.RowKit Go.Proofs.Ytklfpiapnhnhkaa.PScriptPuts Go.Proofs.YtklfpiapnhnhkaaW.PrintWords Go.Proofs.YtklfpiapnhnhkaaW.PrintLast Go.Proofs.YtklfpiapnhnhkaaW.PrintMore Go.Proofs.Ytklfpiapnhnhkaa.VM
set_option linter.unusedSimpArgs false
set_option linter.unusedVariables false

/-- varint.Put, as a list of bytes. -/
theorem put_l0 (k : Nat) : ∀ (n : Nat) (acc : List Int), n < 128 ^ (k + 1) → acc.length + k < 1000 → varint_Put.l0 (k + 1) (n : Int) acc = some (ba ((acc.map fun n => UInt8.ofNat n.toNat) ++ enc n)) := by
  induction k with
  | zero =>
    intro n acc hn hl
    simp only [varint_Put.l0]
    rw [if_pos (by omega), if_pos (by omega), enc_lt (by omega)]
    simp only [strOfNums, ba, List.map_append, List.map_cons, List.map_nil]
    rw [show ((n : Int) % 256).toNat = n by omega]
  | succ k ih =>
    intro n acc hn hl
    rw [varint_Put.l0]
    by_cases h : n < 128
    · rw [if_pos (by omega), if_pos (by omega), enc_lt h]
      simp only [strOfNums, ba, List.map_append, List.map_cons, List.map_nil]
      rw [show ((n : Int) % 256).toNat = n by omega]
    · rw [if_neg (by omega), if_pos (by omega), or128' (by omega) (by omega), show (n : Int) / 128 = ((n / 128 : Nat) : Int) by omega, ih (n / 128) _ (by rw [Nat.pow_succ] at hn; exact Nat.div_lt_of_lt_mul (by rw [Nat.mul_comm]; exact hn)) (by simp; omega), enc_ge h]
      simp only [List.map_append, List.map_cons, List.map_nil, List.append_assoc, List.cons_append, List.nil_append]
      rw [show ((n : Int) % 256 % 128 + 128).toNat = n % 128 + 128 by omega]
theorem put_f {n : Int} (h0 : 0 ≤ n) (h1 : n < 18446744073709551616) {k : Nat} (hk : 10 ≤ k) : varint_Put.f k n = some (ba (enc n.toNat)) := by
  obtain ⟨m, rfl⟩ := Int.eq_ofNat_of_zero_le h0
  refine at_rounds (varint_Put.mono _) hk ?_
  rw [varint_Put.f, put_l0 9 m [] (by simp only [Nat.reducePow, Nat.reduceAdd]; omega) (by simp)]
  simp
/-- The document's Put. -/
theorem byte_f (n : Int) : concourseref01_Byte.f n = some (ba [UInt8.ofNat (n % 256).toNat]) := rfl
theorem refput_f' (k : Nat) : ∀ (n : Nat), n < 128 ^ (k + 1) → n < 18446744073709551616 → k < 1000 → concourseref01_Put.f (k + 1) (n : Int) = some (ba (enc n)) := by
  induction k with
  | zero =>
    intro n hn h64 hk
    rw [concourseref01_Put.f, if_pos (by omega), byte_f, w64 (by omega) (by omega), enc_lt (by omega)]
    simp only [Option.bind_some]
    rw [show ((n : Int) % 256).toNat = n by omega]
  | succ k ih =>
    intro n hn h64 hk
    rw [concourseref01_Put.f]
    by_cases h : n < 128
    · rw [if_pos (by omega), byte_f, w64 (by omega) (by omega), enc_lt (by omega)]
      simp only [Option.bind_some]
      rw [show ((n : Int) % 256).toNat = n by omega]
    · have hd : n / 128 < 128 ^ (k + 1) := by rw [Nat.pow_succ] at hn; exact Nat.div_lt_of_lt_mul (by rw [Nat.mul_comm]; exact hn)
      have hl := enc_len k (n / 128) hd
      rw [if_neg (by omega), Int.tmod_eq_emod_of_nonneg (by omega), Int.tdiv_eq_ediv_of_nonneg (by omega), w64 (n := (n : Int) % 128) (by omega) (by omega), w64 (by omega) (by omega), byte_f, u64i (by omega) (by omega), show (n : Int) / 128 = ((n / 128 : Nat) : Int) by omega, ih (n / 128) hd (by omega) (by omega)]
      simp only [Option.bind_some]
      rw [if_pos (by rw [ba_size, ba_size]; simp; omega), ba_append, enc_ge h, show (((n : Int) % 128 + 128) % 256).toNat = n % 128 + 128 by omega]
      rfl
theorem refput_f {n : Int} (h0 : 0 ≤ n) (h1 : n < 18446744073709551616) {k : Nat} (hk : 10 ≤ k) : concourseref01_Put.f k n = some (ba (enc n.toNat)) := by
  obtain ⟨m, rfl⟩ := Int.eq_ofNat_of_zero_le h0
  refine at_rounds (g := fun j => concourseref01_Put.f j (m : Int)) (fun j => concourseref01_Put.mono _ _) hk ?_
  exact refput_f' 9 m (by simp only [Nat.reducePow, Nat.reduceAdd]; omega) (by omega) (by omega)
theorem spanput_f (s : ByteArray) (hs : s.size ≤ 140737488351232) {k : Nat} (hk : 10 ≤ k) : span_Put.f k s = some (ba (span s)) := by
  have hl := enc_len10 (n := s.size) (by omega)
  unfold span_Put.f
  rw [u64i (by omega) (by omega), put_f (by omega) (by omega) hk]
  simp only [Option.bind_some, Int.toNat_natCast]
  rw [if_pos (by rw [ba_size]; omega), ba_appendR]; rfl
theorem refspanput_f (s : ByteArray) (hs : s.size ≤ 140737488351232) {k : Nat} (hk : 10 ≤ k) : concourseref02_Put.f k s = some (ba (span s)) := by
  have hl := enc_len10 (n := s.size) (by omega)
  unfold concourseref02_Put.f
  rw [u64i (by omega) (by omega), refput_f (by omega) (by omega) hk]
  simp only [Option.bind_some, Int.toNat_natCast]
  rw [if_pos (by rw [ba_size]; omega), ba_appendR]; rfl
theorem dropS {l : List S24} {i : Nat} (h : i < l.length) : l.drop i = rd_T24 l (i : Int) :: l.drop (i + 1) := by
  unfold rd_T24
  rw [List.drop_eq_getElem_cons h, List.getD_eq_getElem?_getD, Int.toNat_natCast, List.getElem?_eq_getElem h]; rfl
theorem memS {l : List S24} {i : Nat} (h : i < l.length) : rd_T24 l (i : Int) ∈ l := by
  unfold rd_T24
  rw [List.getD_eq_getElem?_getD, Int.toNat_natCast, List.getElem?_eq_getElem h]; exact List.getElem_mem h
theorem span_size (s : ByteArray) : (span s).length = (enc s.size).length + s.size := by unfold span; simp only [List.length_append]; rw [← size_len]
/-- An event without what its kind has not. -/
def plain (v : S24) : S24 := ⟨v.f0, if v.f0 = 2 ∨ v.f0 = 6 ∨ v.f0 = 7 then v.f1 else 0, if v.f0 = 4 then v.f2 else 0, if v.f0 = 2 then v.f3 else (⟨#[]⟩ : ByteArray)⟩
/-- What is wrong with an event (0: nothing). -/
def everr (v : S24) : Int :=
  if v.f0 < 1 ∨ v.f0 > 7 then 4
  else if (v.f0 = 2 ∨ v.f0 = 6 ∨ v.f0 = 7) ∧ (v.f1 < 0 ∨ v.f1 > 15) ∨ v.f0 = 2 ∧ (v.f3.size : Int) > 1048576 then 1 else 0
/-- An event's bytes. -/
def evb (v : S24) : List UInt8 :=
  enc v.f0.toNat ++ (if v.f0 = 4 then enc v.f2.toNat else if v.f0 = 2 then enc v.f1.toNat ++ span v.f3 else if v.f0 = 6 ∨ v.f0 = 7 then enc v.f1.toNat else [])
def Wf (v : S24) : Prop := (Lit.int .i64 v.f0).wf = true ∧ (Lit.int .i64 v.f1).wf = true ∧ (Lit.int .u64 v.f2).wf = true
def sput (v : S24) : ByteArray × Int := if everr v = 0 then (ba (evb v), 0) else ((⟨#[]⟩ : ByteArray), everr v)
/-- A script's bytes. -/
def sgo : List S24 → List UInt8 × Int
  | [] => ([], 0)
  | v :: r => if everr v = 0 then (if (sgo r).2 = 0 then (evb v ++ (sgo r).1, 0) else ([], (sgo r).2)) else ([], everr v)
theorem kinds {k : Int} (h : ¬ (k < 1 ∨ k > 7)) : k = 1 ∨ k = 2 ∨ k = 3 ∨ k = 4 ∨ k = 5 ∨ k = 6 ∨ k = 7 := by omega
theorem everr_kind {v : S24} (h : everr v = 0) : ¬ (v.f0 < 1 ∨ v.f0 > 7) := by
  intro h1; unfold everr at h; rw [if_pos h1] at h; exact absurd h (by decide)
theorem everr_rest {v : S24} (h : everr v = 0) : ((v.f0 = 2 ∨ v.f0 = 6 ∨ v.f0 = 7) → 0 ≤ v.f1 ∧ v.f1 ≤ 15) ∧ (v.f0 = 2 → v.f3.size ≤ 1048576) := by
  have h0 := everr_kind h
  unfold everr at h
  rw [if_neg h0] at h
  split at h
  · exact absurd h (by decide)
  · rename_i h2; exact ⟨fun hc => by omega, fun hc => by omega⟩
theorem evb_len {v : S24} (h : everr v = 0) (hw : Wf v) : (evb v).length ≤ 1048616 := by
  have h0 := everr_kind h
  obtain ⟨h1, h2⟩ := everr_rest h
  obtain ⟨_, _, w2⟩ := hw
  have w2 := wf_u64 w2
  have e0 := enc_len10 (n := v.f0.toNat) (by omega)
  have e2 := enc_len10 (n := v.f2.toNat) (by omega)
  unfold evb
  rw [List.length_append]
  split
  · omega
  · split
    · rename_i hk
      have h1 := h1 (.inl hk)
      have h2 := h2 hk
      have e1 := enc_len10 (n := v.f1.toNat) (by omega)
      have e3 := enc_len10 (n := v.f3.size) (by omega)
      rw [List.length_append, span_size]; omega
    · split
      · rename_i hk
        have h1 := h1 (.inr hk)
        have e1 := enc_len10 (n := v.f1.toNat) (by omega)
        omega
      · simp; omega
theorem sgo_err (l : List S24) : (sgo l).2 ≠ 0 → (sgo l).1 = [] := by
  cases l with
  | nil => intro h; rfl
  | cons v r =>
    simp only [sgo]
    (repeat' split) <;> intro h <;> first | rfl | exact absurd rfl h
theorem plain_f (v : S24) : script_Plain.f v.f0 v.f1 v.f2 v.f3 = some ((plain v).f0, (plain v).f1, (plain v).f2, (plain v).f3) := by
  obtain ⟨a, b, c, d⟩ := v
  unfold script_Plain.f plain
  simp only []
  by_cases h4 : a = 4
  · subst h4; rfl
  · by_cases h2 : a = 2
    · subst h2; rfl
    · by_cases h6 : a = 6
      · subst h6; rfl
      · by_cases h7 : a = 7
        · subst h7; rfl
        · simp only [h4, h2, h6, h7, if_false, or_self]
theorem sput_f (v : S24) (hw : Wf v) {k : Nat} (hk : 14 ≤ k) : script_put.f k v.f0 v.f1 v.f2 v.f3 = some (sput v) := by
  obtain ⟨w0, w1, w2⟩ := hw
  obtain ⟨k, rfl⟩ : ∃ j, k = j + 2 := ⟨k - 2, by omega⟩
  unfold script_put.f
  rw [plain_f]
  obtain ⟨a, b, c, d⟩ := v
  have r1 := wf_i64 w1
  have r2 := wf_u64 w2
  clear w0 w1 w2
  simp only at r1 r2
  simp only [Option.bind_some]
  unfold sput
  by_cases h : a < 1 ∨ a > 7
  · have he : everr ⟨a, b, c, d⟩ = 4 := by unfold everr; rw [if_pos h]
    rw [he, if_neg (show ¬ (4 : Int) = 0 by decide)]
    by_cases h1 : a < 1
    · rw [if_pos h1]; simp only [script_put.j0]; rw [if_pos trivial]
    · rw [if_neg h1]; simp only [script_put.j0]; rw [if_pos (decide_eq_true (by omega))]
  · rw [if_neg (by omega)]
    simp only [script_put.j0]
    rw [if_neg (by rw [decide_eq_true_eq]; omega)]
    have put1 : ∀ n : Int, 0 ≤ n → n < 18446744073709551616 → varint_Put.f (k + 1) n = some (ba (enc n.toNat)) := fun n h0 h1 => put_f h0 h1 (by omega)
    have hl : ∀ n : Int, 0 ≤ n → n < 18446744073709551616 → (enc n.toNat).length ≤ 10 := fun n h0 h1 => enc_len10 (by omega)
    have hz : ByteArray.size (⟨#[]⟩ : ByteArray) = 0 := rfl
    have happ : ∀ l : List UInt8, ba l ++ (⟨#[]⟩ : ByteArray) = ba l := fun l => ByteArray.append_empty
    rcases kinds h with rfl | rfl | rfl | rfl | rfl | rfl | rfl
    · simp only [plain, evb, everr]
      simp [script_put.j1, put1, u64i, ba_size, hz, happ]
      rw [enc_lt (by decide)]; simp
    · rw [show plain ⟨2, b, c, d⟩ = ⟨2, b, 0, d⟩ from rfl, show evb ⟨2, b, c, d⟩ = enc 2 ++ (enc b.toNat ++ span d) from rfl]
      have hE : everr ⟨2, b, c, d⟩ = if (b < 0 ∨ b > 15) ∨ (d.size : Int) > 1048576 then 1 else 0 := by unfold everr; simp
      rw [hE]
      simp only []
      by_cases hb : b < 0 ∨ b > 15
      · rw [if_pos (show (b < 0 ∨ b > 15) ∨ (d.size : Int) > 1048576 from .inl hb)]
        by_cases h1 : b < 0
        · rw [if_pos h1]; rfl
        · rw [if_neg h1, if_pos (by omega)]; rfl
      · by_cases hd : (d.size : Int) > 1048576
        · rw [if_pos (show (b < 0 ∨ b > 15) ∨ (d.size : Int) > 1048576 from .inr hd), if_neg (by omega), if_neg (by omega), if_pos hd]; rfl
        · have h2 := spanput_f d (by omega) (k := k + 1) (by omega)
          have h3 := span_size d
          have h4 := hl (d.size : Int) (by omega) (by omega)
          have h5 := hl b (by omega) (by omega)
          have h6 := hl 2 (by decide) (by decide)
          simp only [Int.toNat_natCast] at h4
          rw [if_neg (show ¬ ((b < 0 ∨ b > 15) ∨ (d.size : Int) > 1048576) by omega), if_neg (by omega), if_neg (by omega), if_neg hd, h2, u64i (n := b) (by omega) (by omega), u64i (n := (2 : Int)) (by decide) (by decide), put1 b (by omega) (by omega), put1 2 (by decide) (by decide)]
          simp only [Option.bind_some]
          rw [if_neg (show ¬ (2 : Int) = 4 by decide), if_pos trivial, if_pos (by rw [ba_size, ba_size]; omega), ba_append, if_pos (by rw [ba_size, ba_size, List.length_append]; omega), ba_append, if_pos trivial]
          rfl
    · simp only [plain, evb, everr]
      simp [script_put.j1, put1, u64i, ba_size, hz, happ]
      rw [enc_lt (by decide)]; simp
    · have h6 := hl 4 (by decide) (by decide)
      have h7 := hl c (by omega) (by omega)
      simp only [plain, evb, everr]
      simp [put1, u64i, ba_size, hz, ba_append, r2]
      simp only [Int.reduceToNat] at h6
      omega
    · simp only [plain, evb, everr]
      simp [script_put.j1, put1, u64i, ba_size, hz, happ]
      rw [enc_lt (by decide)]; simp
    · rw [show plain ⟨6, b, c, d⟩ = ⟨6, b, 0, (⟨#[]⟩ : ByteArray)⟩ from rfl, show evb ⟨6, b, c, d⟩ = enc 6 ++ enc b.toNat from rfl]
      have hE : everr ⟨6, b, c, d⟩ = if (b < 0 ∨ b > 15) then 1 else 0 := by unfold everr; simp
      rw [hE]
      simp only []
      by_cases hb : b < 0 ∨ b > 15
      · rw [if_pos hb]
        by_cases h1 : b < 0
        · rw [if_pos h1]; rfl
        · rw [if_neg h1, if_pos (by omega)]; rfl
      · have h5 := hl b (by omega) (by omega)
        have h6 := hl 6 (by decide) (by decide)
        rw [if_neg hb, if_neg (by omega), if_neg (by omega), if_neg (by rw [hz]; decide), u64i (n := (6 : Int)) (by decide) (by decide), put1 6 (by decide) (by decide)]
        simp only [Option.bind_some]
        rw [if_neg (show ¬ (6 : Int) = 4 by decide), if_neg (show ¬ (6 : Int) = 2 by decide), if_pos trivial]
        simp only [script_put.j1]
        rw [if_pos (show ((6 : Int) == 6) = true by decide), u64i (by omega) (by omega), put_f (n := b) (by omega) (by omega) (by omega)]
        simp only [Option.bind_some]
        rw [happ, if_pos (by rw [hz, ba_size]; omega), if_pos (by rw [ba_size, ba_size]; omega), ba_append, if_pos trivial]
        rfl
    · rw [show plain ⟨7, b, c, d⟩ = ⟨7, b, 0, (⟨#[]⟩ : ByteArray)⟩ from rfl, show evb ⟨7, b, c, d⟩ = enc 7 ++ enc b.toNat from rfl]
      have hE : everr ⟨7, b, c, d⟩ = if (b < 0 ∨ b > 15) then 1 else 0 := by unfold everr; simp
      rw [hE]
      simp only []
      by_cases hb : b < 0 ∨ b > 15
      · rw [if_pos hb]
        by_cases h1 : b < 0
        · rw [if_pos h1]; rfl
        · rw [if_neg h1, if_pos (by omega)]; rfl
      · have h5 := hl b (by omega) (by omega)
        have h6 := hl 7 (by decide) (by decide)
        rw [if_neg hb, if_neg (by omega), if_neg (by omega), if_neg (by rw [hz]; decide), u64i (n := (7 : Int)) (by decide) (by decide), put1 7 (by decide) (by decide)]
        simp only [Option.bind_some]
        rw [if_neg (show ¬ (7 : Int) = 4 by decide), if_neg (show ¬ (7 : Int) = 2 by decide), if_neg (show ¬ (7 : Int) = 6 by decide)]
        simp only [script_put.j1]
        rw [if_pos (show ((7 : Int) == 7) = true by decide), u64i (by omega) (by omega), put_f (n := b) (by omega) (by omega) (by omega)]
        simp only [Option.bind_some]
        rw [happ, if_pos (by rw [hz, ba_size]; omega), if_pos (by rw [ba_size, ba_size]; omega), ba_append, if_pos trivial]
        rfl
def sfin (out : ByteArray) (r : List UInt8 × Int) : ByteArray × Int := if r.2 = 0 then (out ++ ba r.1, 0) else ((⟨#[]⟩ : ByteArray), r.2)
theorem sfin_ok {v : S24} (he : everr v = 0) (out : ByteArray) (r : List S24) : sfin (out ++ ba (evb v)) (sgo r) = sfin out (sgo (v :: r)) := by
  have e : sgo (v :: r) = if (sgo r).2 = 0 then (evb v ++ (sgo r).1, 0) else ([], (sgo r).2) := by simp only [sgo]; rw [if_pos he]
  rw [e]
  unfold sfin
  by_cases h2 : (sgo r).2 = 0
  · rw [if_pos h2, if_pos h2]; simp only [if_true]; rw [ByteArray.append_assoc, ba_append]
  · rw [if_neg h2, if_neg h2]; simp only []; rw [if_neg h2]
theorem sfin_err {v : S24} (he : ¬ everr v = 0) (out : ByteArray) (r : List S24) : sfin out (sgo (v :: r)) = ((⟨#[]⟩ : ByteArray), everr v) := by
  have e : sgo (v :: r) = ([], everr v) := by simp only [sgo]; rw [if_neg he]
  rw [e]
  unfold sfin
  simp only []; rw [if_neg he]
theorem sfin_nil (out : ByteArray) : sfin out (sgo []) = (out, 0) := by
  unfold sfin; simp only [sgo, if_true]
  rw [show ba [] = ByteArray.empty from rfl, ByteArray.append_empty]
theorem sfin_empty (l : List S24) : sfin (⟨#[]⟩ : ByteArray) (sgo l) = (ba (sgo l).1, (sgo l).2) := by
  unfold sfin
  by_cases h0 : (sgo l).2 = 0
  · rw [if_pos h0, h0, show (⟨#[]⟩ : ByteArray) = ByteArray.empty from rfl, ByteArray.empty_append]
  · rw [if_neg h0, sgo_err l h0]; rfl
theorem sput_size {v : S24} (h : everr v = 0) (hw : Wf v) : (ba (evb v)).size ≤ 1048616 := by rw [ba_size]; exact evb_len h hw
theorem sPut_l0 (l : List S24) (hw : ∀ v ∈ l, Wf v) (h1024 : l.length ≤ 1024) (d : Nat) : ∀ (k i : Nat) (out : ByteArray), i + d = l.length → out.size ≤ i * 2097152 → d + 40 ≤ k →
    script_Put.l0 k out l (l.length : Int) (i : Int) = some (sfin out (sgo (l.drop i))) := by
  induction d with
  | zero =>
    intro k i out hi ho hk
    obtain ⟨k, rfl⟩ : ∃ j, k = j + 1 := ⟨k - 1, by omega⟩
    rw [script_Put.l0, if_neg (by omega), List.drop_of_length_le (by omega), sfin_nil]
  | succ d ih =>
    intro k i out hi ho hk
    obtain ⟨k, rfl⟩ : ∃ j, k = j + 1 := ⟨k - 1, by omega⟩
    have hil : i < l.length := by omega
    have hv := hw _ (memS hil)
    rw [script_Put.l0, if_pos (by omega), if_pos (by omega), if_pos (by omega), sput_f _ hv (by omega), dropS hil]
    simp only [Option.bind_some]
    generalize rd_T24 l (i : Int) = v at *
    unfold sput
    by_cases he : everr v = 0
    · have hz := sput_size he hv
      rw [if_pos he]
      simp only [if_true]
      rw [if_pos (by omega), w64 (by omega) (by omega), show ((i : Int) + 1) = ((i + 1 : Nat) : Int) from rfl, ih k (i + 1) _ (by omega) (by rw [ByteArray.size_append]; omega) (by omega), sfin_ok he]
    · rw [if_neg he, sfin_err he]
      simp only []
      rw [if_neg he]
theorem sPut_f (l : List S24) (hw : ∀ v ∈ l, Wf v) {k : Nat} (hk : 1100 ≤ k) : script_Put.f k l = some (if l.length > 1024 then ((⟨#[]⟩ : ByteArray), 3) else (ba (sgo l).1, (sgo l).2)) := by
  unfold script_Put.f
  by_cases h : l.length > 1024
  · rw [if_pos (by omega), if_pos h]
  · rw [if_neg (by omega), if_neg h]
    have := sPut_l0 l hw (by omega) l.length k 0 (⟨#[]⟩ : ByteArray) (by omega) (by show ByteArray.size ByteArray.empty ≤ _; rw [ByteArray.size_empty]; omega) (by omega)
    rw [show ((0 : Nat) : Int) = 0 from rfl, List.drop_zero] at this
    rw [this, sfin_empty]
theorem awake_f {k : Nat} (hk : 1100 ≤ k) : concourselaw43_awake.f k = some true := by
  unfold concourselaw43_awake.f
  have hw : ∀ v ∈ ([(⟨1, 0, 0, (⟨#[]⟩ : ByteArray)⟩ : S24), (⟨2, 0, 0, (⟨#[97, 98]⟩ : ByteArray)⟩ : S24)] : List S24), Wf v := by
    intro v hv
    rcases List.mem_cons.1 hv with rfl | hv
    · exact ⟨by decide, by decide, by decide⟩
    · rcases List.mem_cons.1 hv with rfl | hv
      · exact ⟨by decide, by decide, by decide⟩
      · simp at hv
  have e : sgo [(⟨1, 0, 0, (⟨#[]⟩ : ByteArray)⟩ : S24), (⟨2, 0, 0, (⟨#[97, 98]⟩ : ByteArray)⟩ : S24)] = ([1, 2, 0, 2, 97, 98], 0) := by
    have e1 : everr ⟨1, 0, 0, (⟨#[]⟩ : ByteArray)⟩ = 0 := by unfold everr; decide
    have e2 : everr ⟨2, 0, 0, (⟨#[97, 98]⟩ : ByteArray)⟩ = 0 := by unfold everr; decide
    simp only [sgo]
    rw [if_pos e1, if_pos e2, if_pos trivial]
    simp only [if_true, List.append_nil]
    have f1 : evb ⟨1, 0, 0, (⟨#[]⟩ : ByteArray)⟩ = enc 1 ++ [] := rfl
    have f2 : evb ⟨2, 0, 0, (⟨#[97, 98]⟩ : ByteArray)⟩ = enc 2 ++ (enc 0 ++ (enc 2 ++ [97, 98])) := rfl
    rw [f1, f2, enc_lt (n := 1) (by decide), enc_lt (n := 2) (by decide), enc_lt (n := 0) (by decide)]
    rfl
  rw [sPut_f _ hw hk, if_neg (by decide), e]
  simp only [Option.bind_some]
  rw [if_pos trivial, ba_toList]
  rfl
theorem has_f (a : Int) : concourseref43_has.f a = some (decide (a = 2 ∨ a = 6 ∨ a = 7), (a == 4), (a == 2)) := by
  unfold concourseref43_has.f
  by_cases h2 : a = 2
  · subst h2; rfl
  · rw [if_neg h2]
    by_cases h6 : a = 6
    · subst h6; rfl
    · rw [if_neg h6]
      by_cases h7 : a = 7
      · subst h7; rfl
      · simp [h2, h6, h7]
theorem refplain_f (v : S24) {k : Nat} (hk : 1 ≤ k) : concourseref43_Plain.f k v.f0 v.f1 v.f2 v.f3 = some ((plain v).f0, (plain v).f1, (plain v).f2, (plain v).f3) := by
  obtain ⟨k, rfl⟩ : ∃ j, k = j + 1 := ⟨k - 1, by omega⟩
  obtain ⟨a, b, c, d⟩ := v
  unfold concourseref43_Plain.f
  rw [has_f]
  simp only [Option.bind_some, concourseref43_Plain.j0, plain]
  by_cases h4 : a = 4
  · subst h4; rfl
  · by_cases h2 : a = 2
    · subst h2; rfl
    · by_cases h6 : a = 6
      · subst h6; rfl
      · by_cases h7 : a = 7
        · subst h7; rfl
        · simp [h4, h2, h6, h7]
/-- One event of the document's Put. -/
theorem refPut_step (l : List S24) (k i : Nat) (out : ByteArray) (hi : i < l.length) (hw : Wf (rd_T24 l (i : Int))) (ho : out.size ≤ 9000000000000000000) (hk : 40 ≤ k) (h63 : i < 1024) :
    concourseref43_Put.l0 (k + 4) l out (i : Int) = if everr (rd_T24 l (i : Int)) = 0 then concourseref43_Put.l0 k l (out ++ ba (evb (rd_T24 l (i : Int)))) ((i + 1 : Nat) : Int) else some ((⟨#[]⟩ : ByteArray), everr (rd_T24 l (i : Int))) := by
  rw [concourseref43_Put.l0, if_pos (by omega), if_pos (by omega)]
  have hz := fun he => sput_size (v := rd_T24 l (i : Int)) he hw
  generalize rd_T24 l (i : Int) = v at *
  obtain ⟨w0, w1, w2⟩ := hw
  obtain ⟨a, b, c, d⟩ := v
  have r1 := wf_i64 w1
  have r2 := wf_u64 w2
  clear w0 w1 w2
  simp only at r1 r2 ⊢
  have hwi : wrap64 ((i : Int) + 1) = ((i + 1 : Nat) : Int) := by rw [w64 (by omega) (by omega)]; rfl
  by_cases h : a < 1 ∨ a > 7
  · have he : everr ⟨a, b, c, d⟩ = 4 := by unfold everr; rw [if_pos h]
    rw [he, if_neg (show ¬ (4 : Int) = 0 by decide)]
    by_cases h1 : a < 1
    · rw [if_pos h1]; simp only [concourseref43_Put.j1]; rw [if_pos trivial]
    · rw [if_neg h1]; simp only [concourseref43_Put.j1]; rw [if_pos (decide_eq_true (by omega))]
  · rw [if_neg (show ¬ a < 1 by omega)]
    simp only [concourseref43_Put.j1]
    rw [if_neg (show ¬ decide (a > 7) = true by rw [decide_eq_true_eq]; omega), has_f]
    simp only [Option.bind_some]
    have hl : ∀ n : Int, 0 ≤ n → n < 18446744073709551616 → (enc n.toNat).length ≤ 10 := fun n h0 h1 => enc_len10 (by omega)
    have hb1 : ∀ n : Int, 0 ≤ n → n < 128 → concourseref01_Byte.f n = some (ba (enc n.toNat)) := fun n h0 h1 => by rw [byte_f, enc_lt (by omega), show (n % 256).toNat = n.toNat by omega]
    have h1 : ∀ n : Int, 0 ≤ n → n < 128 → (enc n.toNat).length = 1 := fun n h0 h1 => by rw [enc_lt (by omega)]; rfl
    have hs : ∀ n : Int, 0 ≤ n → n < 128 → ∀ o : ByteArray, (o ++ ba (enc n.toNat)).size = o.size + 1 := fun n h0 h2 o => by rw [ByteArray.size_append, ba_size, h1 n h0 h2]
    rcases kinds h with rfl | rfl | rfl | rfl | rfl | rfl | rfl
    · rw [show evb ⟨1, b, c, d⟩ = enc 1 ++ [] from rfl, List.append_nil, show everr ⟨1, b, c, d⟩ = 0 by unfold everr; simp, if_neg (show ¬ decide ((1 : Int) = 2 ∨ (1 : Int) = 6 ∨ (1 : Int) = 7) = true by decide), if_neg (show ¬ ((1 : Int) == 2) = true by decide), if_pos (show (0 : Int) = 0 from rfl)]
      simp only [concourseref43_Put.j2]
      rw [if_neg (by decide), hb1 1 (by decide) (by decide)]
      simp only [Option.bind_some]
      rw [if_pos (by rw [ba_size, h1 1 (by decide) (by decide)]; omega), if_neg (show ¬ ((1 : Int) == 4) = true by decide)]
      simp only [concourseref43_Put.j3]
      rw [if_neg (by decide), if_neg (show ¬ ((1 : Int) == 2) = true by decide), hwi]
      rfl
    · rw [show evb ⟨2, b, c, d⟩ = enc 2 ++ (enc b.toNat ++ span d) from rfl]
      have hE : everr ⟨2, b, c, d⟩ = if (b < 0 ∨ b > 15) ∨ (d.size : Int) > 1048576 then 1 else 0 := by unfold everr; simp
      rw [hE]
      rw [if_pos (show decide ((2 : Int) = 2 ∨ (2 : Int) = 6 ∨ (2 : Int) = 7) = true by decide)]
      by_cases hb : b < 0 ∨ b > 15
      · rw [if_pos (show (b < 0 ∨ b > 15) ∨ (d.size : Int) > 1048576 from .inl hb), if_neg (show ¬ (1 : Int) = 0 by decide)]
        by_cases h1 : b < 0
        · rw [if_pos h1]; simp only [concourseref43_Put.j2]; rw [if_pos trivial]
        · rw [if_neg h1, if_pos (by omega)]; simp only [concourseref43_Put.j2]; rw [if_pos trivial]
      · rw [if_neg (show ¬ b < 0 by omega), if_neg (show ¬ b > 15 by omega), if_pos (show ((2 : Int) == 2) = true by decide)]
        simp only [concourseref43_Put.j2]
        by_cases hd : (d.size : Int) > 1048576
        · rw [if_pos (decide_eq_true hd), if_pos (show (b < 0 ∨ b > 15) ∨ (d.size : Int) > 1048576 from .inr hd), if_neg (show ¬ (1 : Int) = 0 by decide)]
        · have h3 := span_size d
          have h4 := hl (d.size : Int) (by omega) (by omega)
          simp only [Int.toNat_natCast] at h4
          rw [if_neg (show ¬ decide ((d.size : Int) > 1048576) = true by rw [decide_eq_true_eq]; exact hd), if_neg (show ¬ ((b < 0 ∨ b > 15) ∨ (d.size : Int) > 1048576) by omega), if_pos (show (0 : Int) = 0 from rfl), hb1 2 (by decide) (by decide)]
          simp only [Option.bind_some]
          rw [if_pos (by rw [ba_size, h1 2 (by decide) (by decide)]; omega), if_neg (show ¬ ((2 : Int) == 4) = true by decide)]
          simp only [concourseref43_Put.j3]
          rw [if_pos (by decide), hb1 b (by omega) (by omega)]
          simp only [Option.bind_some]
          rw [if_pos (by rw [hs 2 (by decide) (by decide), ba_size, h1 b (by omega) (by omega)]; omega), if_pos (show ((2 : Int) == 2) = true by decide), refspanput_f d (by omega) (by omega)]
          simp only [Option.bind_some]
          rw [if_pos (by rw [hs b (by omega) (by omega), hs 2 (by decide) (by decide), ba_size]; omega), hwi, ByteArray.append_assoc, ByteArray.append_assoc, ba_append, ba_append]
          rfl
    · rw [show evb ⟨3, b, c, d⟩ = enc 3 ++ [] from rfl, List.append_nil, show everr ⟨3, b, c, d⟩ = 0 by unfold everr; simp, if_neg (show ¬ decide ((3 : Int) = 2 ∨ (3 : Int) = 6 ∨ (3 : Int) = 7) = true by decide), if_neg (show ¬ ((3 : Int) == 2) = true by decide), if_pos (show (0 : Int) = 0 from rfl)]
      simp only [concourseref43_Put.j2]
      rw [if_neg (by decide), hb1 3 (by decide) (by decide)]
      simp only [Option.bind_some]
      rw [if_pos (by rw [ba_size, h1 3 (by decide) (by decide)]; omega), if_neg (show ¬ ((3 : Int) == 4) = true by decide)]
      simp only [concourseref43_Put.j3]
      rw [if_neg (by decide), if_neg (show ¬ ((3 : Int) == 2) = true by decide), hwi]
      rfl
    · rw [show evb ⟨4, b, c, d⟩ = enc 4 ++ enc c.toNat from rfl, show everr ⟨4, b, c, d⟩ = 0 by unfold everr; simp, if_neg (show ¬ decide ((4 : Int) = 2 ∨ (4 : Int) = 6 ∨ (4 : Int) = 7) = true by decide), if_neg (show ¬ ((4 : Int) == 2) = true by decide), if_pos (show (0 : Int) = 0 from rfl)]
      simp only [concourseref43_Put.j2]
      rw [if_neg (by decide), hb1 4 (by decide) (by decide)]
      simp only [Option.bind_some]
      have h7 := hl c (by omega) (by omega)
      rw [if_pos (by rw [ba_size, h1 4 (by decide) (by decide)]; omega), if_pos (show ((4 : Int) == 4) = true by decide), refput_f (by omega) (by omega) (by omega)]
      simp only [Option.bind_some]
      rw [if_pos (by rw [hs 4 (by decide) (by decide), ba_size]; omega)]
      simp only [concourseref43_Put.j3]
      rw [if_neg (by decide), if_neg (show ¬ ((4 : Int) == 2) = true by decide), hwi, ByteArray.append_assoc, ba_append]
      rfl
    · rw [show evb ⟨5, b, c, d⟩ = enc 5 ++ [] from rfl, List.append_nil, show everr ⟨5, b, c, d⟩ = 0 by unfold everr; simp, if_neg (show ¬ decide ((5 : Int) = 2 ∨ (5 : Int) = 6 ∨ (5 : Int) = 7) = true by decide), if_neg (show ¬ ((5 : Int) == 2) = true by decide), if_pos (show (0 : Int) = 0 from rfl)]
      simp only [concourseref43_Put.j2]
      rw [if_neg (by decide), hb1 5 (by decide) (by decide)]
      simp only [Option.bind_some]
      rw [if_pos (by rw [ba_size, h1 5 (by decide) (by decide)]; omega), if_neg (show ¬ ((5 : Int) == 4) = true by decide)]
      simp only [concourseref43_Put.j3]
      rw [if_neg (by decide), if_neg (show ¬ ((5 : Int) == 2) = true by decide), hwi]
      rfl
    · rw [show evb ⟨6, b, c, d⟩ = enc 6 ++ enc b.toNat from rfl]
      have hE : everr ⟨6, b, c, d⟩ = if (b < 0 ∨ b > 15) then 1 else 0 := by unfold everr; simp
      rw [hE]
      rw [if_pos (show decide ((6 : Int) = 2 ∨ (6 : Int) = 6 ∨ (6 : Int) = 7) = true by decide)]
      by_cases hb : b < 0 ∨ b > 15
      · rw [if_pos hb, if_neg (show ¬ (1 : Int) = 0 by decide)]
        by_cases h1 : b < 0
        · rw [if_pos h1]; simp only [concourseref43_Put.j2]; rw [if_pos trivial]
        · rw [if_neg h1, if_pos (by omega)]; simp only [concourseref43_Put.j2]; rw [if_pos trivial]
      · rw [if_neg (show ¬ b < 0 by omega), if_neg (show ¬ b > 15 by omega), if_neg (show ¬ ((6 : Int) == 2) = true by decide), if_neg hb]
        simp only [concourseref43_Put.j2]
        rw [if_neg (by decide), if_pos trivial, hb1 6 (by decide) (by decide)]
        simp only [Option.bind_some]
        rw [if_pos (by rw [ba_size, h1 6 (by decide) (by decide)]; omega), if_neg (show ¬ ((6 : Int) == 4) = true by decide)]
        simp only [concourseref43_Put.j3]
        rw [if_pos (by decide), hb1 b (by omega) (by omega)]
        simp only [Option.bind_some]
        rw [if_pos (by rw [hs 6 (by decide) (by decide), ba_size, h1 b (by omega) (by omega)]; omega), if_neg (show ¬ ((6 : Int) == 2) = true by decide), hwi, ByteArray.append_assoc, ba_append]
        rfl
    · rw [show evb ⟨7, b, c, d⟩ = enc 7 ++ enc b.toNat from rfl]
      have hE : everr ⟨7, b, c, d⟩ = if (b < 0 ∨ b > 15) then 1 else 0 := by unfold everr; simp
      rw [hE]
      rw [if_pos (show decide ((7 : Int) = 2 ∨ (7 : Int) = 6 ∨ (7 : Int) = 7) = true by decide)]
      by_cases hb : b < 0 ∨ b > 15
      · rw [if_pos hb, if_neg (show ¬ (1 : Int) = 0 by decide)]
        by_cases h1 : b < 0
        · rw [if_pos h1]; simp only [concourseref43_Put.j2]; rw [if_pos trivial]
        · rw [if_neg h1, if_pos (by omega)]; simp only [concourseref43_Put.j2]; rw [if_pos trivial]
      · rw [if_neg (show ¬ b < 0 by omega), if_neg (show ¬ b > 15 by omega), if_neg (show ¬ ((7 : Int) == 2) = true by decide), if_neg hb]
        simp only [concourseref43_Put.j2]
        rw [if_neg (by decide), if_pos trivial, hb1 7 (by decide) (by decide)]
        simp only [Option.bind_some]
        rw [if_pos (by rw [ba_size, h1 7 (by decide) (by decide)]; omega), if_neg (show ¬ ((7 : Int) == 4) = true by decide)]
        simp only [concourseref43_Put.j3]
        rw [if_pos (by decide), hb1 b (by omega) (by omega)]
        simp only [Option.bind_some]
        rw [if_pos (by rw [hs 7 (by decide) (by decide), ba_size, h1 b (by omega) (by omega)]; omega), if_neg (show ¬ ((7 : Int) == 2) = true by decide), hwi, ByteArray.append_assoc, ba_append]
        rfl
theorem refPut_l0 (l : List S24) (hw : ∀ v ∈ l, Wf v) (h1024 : l.length ≤ 1024) (d : Nat) : ∀ (k i : Nat) (out : ByteArray), i + d = l.length → out.size ≤ i * 2097152 → 4 * d + 44 ≤ k →
    concourseref43_Put.l0 k l out (i : Int) = some (sfin out (sgo (l.drop i))) := by
  induction d with
  | zero =>
    intro k i out hi ho hk
    obtain ⟨k, rfl⟩ : ∃ j, k = j + 1 := ⟨k - 1, by omega⟩
    rw [concourseref43_Put.l0, if_neg (by omega), List.drop_of_length_le (by omega), sfin_nil]
  | succ d ih =>
    intro k i out hi ho hk
    obtain ⟨k, rfl⟩ : ∃ j, k = j + 4 := ⟨k - 4, by omega⟩
    have hil : i < l.length := by omega
    have hv := hw _ (memS hil)
    rw [refPut_step l k i out hil hv (by omega) (by omega) (by omega), dropS hil]
    generalize rd_T24 l (i : Int) = v at *
    by_cases he : everr v = 0
    · have hz := sput_size he hv
      rw [if_pos he, ih k (i + 1) _ (by omega) (by rw [ByteArray.size_append]; omega) (by omega), sfin_ok he]
    · rw [if_neg he, sfin_err he]
theorem refPut_f (l : List S24) (hw : ∀ v ∈ l, Wf v) {k : Nat} (hk : 4200 ≤ k) : concourseref43_Put.f k l = some (if l.length > 1024 then ((⟨#[]⟩ : ByteArray), 3) else (ba (sgo l).1, (sgo l).2)) := by
  unfold concourseref43_Put.f
  by_cases h : l.length > 1024
  · rw [if_pos (by omega), if_pos h]
  · rw [if_neg (by omega), if_neg h]
    have := refPut_l0 l hw (by omega) l.length k 0 (⟨#[]⟩ : ByteArray) (by omega) (by show ByteArray.size ByteArray.empty ≤ _; rw [ByteArray.size_empty]; omega) (by omega)
    rw [show ((0 : Nat) : Int) = 0 from rfl, List.drop_zero] at this
    rw [this, sfin_empty]

theorem puts_l0 (l : List S24) (hl : l.length ≤ 9223372036854775807) (x : ByteArray) (e : Int) (d : Nat) : ∀ (k i : Nat), i + d = l.length → d + 1200 ≤ k →
    concourselaw43_ScriptPuts.l0 k l x e x e (i : Int) = some true := by
  induction d with
  | zero =>
    intro k i hi hk
    obtain ⟨k, rfl⟩ : ∃ j, k = j + 1 := ⟨k - 1, by omega⟩
    rw [concourselaw43_ScriptPuts.l0, if_neg (by omega), if_pos rfl, if_pos rfl, awake_f (by omega)]; rfl
  | succ d ih =>
    intro k i hi hk
    obtain ⟨k, rfl⟩ : ∃ j, k = j + 1 := ⟨k - 1, by omega⟩
    rw [concourselaw43_ScriptPuts.l0, if_pos (by omega), if_pos (by omega), plain_f, refplain_f _ (by omega)]
    simp only [Option.bind_some]
    rw [if_neg (by simp), w64 (by omega) (by omega)]
    exact ih k (i + 1) (by omega) (by omega)
theorem ScriptPuts : ∀ (l : List S24), (∀ v ∈ l, Wf v) → l.length ≤ 9223372036854775807 → ∃ k, concourselaw43_ScriptPuts.f k l = some true := by
  intro l hw hl
  obtain ⟨k, hk⟩ : ∃ k, l.length + 4200 ≤ k := ⟨_, Nat.le_refl _⟩
  refine ⟨k, ?_⟩
  unfold concourselaw43_ScriptPuts.f
  rw [sPut_f l hw (by omega), refPut_f l hw (by omega)]
  simp only [Option.bind_some]
  exact puts_l0 l hl _ _ l.length _ 0 (by omega) (by omega)

end Go.Proofs.Ytklfpiapnhnhkaa.Pure
