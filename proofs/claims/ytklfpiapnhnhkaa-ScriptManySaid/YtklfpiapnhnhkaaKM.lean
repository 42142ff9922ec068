/- The plain law of fields on the wire: keys, contents, splitting and joining, over lists of bytes: no program in sight. No conditions but bounds. -/
import Derived.Test.YtklfpiapnhnhkaaVB
namespace Go.Proofs.Ytklfpiapnhnhkaa.VM
open Go.RowKit Go.Proofs.YtklfpiapnhnhkaaW.PrintWords Go.Proofs.YtklfpiapnhnhkaaW.PrintLast Go.Proofs.YtklfpiapnhnhkaaW.PrintMore
set_option linter.unusedSimpArgs false
set_option linter.unusedVariables false

def kput (t w : Int) : ByteArray × Int := if t < 1 ∨ t > 255 then ((⟨#[]⟩ : ByteArray), 9) else if w = 0 ∨ w = 1 then (ba (enc (2 * t + w).toNat), 0) else ((⟨#[]⟩ : ByteArray), 4)
def ktake (l : List UInt8) : Int × Int × Int × Int :=
  if (tkI l).2.2 = 0 then (if (tkI l).1 < 2 ∨ (tkI l).1 > 511 then (0, 0, 0, 9) else ((tkI l).1 / 2, (tkI l).1 % 2, (tkI l).2.1, 0)) else (0, 0, 0, (tkI l).2.2)
def kskip (l : List UInt8) (w : Int) : Int × Int :=
  if w = 0 then ((tkI l).2.1, (tkI l).2.2)
  else if w = 1 then (if (tkI l).2.2 = 0 then (if (tkI l).1 > (l.length : Int) - (tkI l).2.1 then (0, 2) else ((tkI l).2.1 + (tkI l).1, 0)) else (0, (tkI l).2.2))
  else (0, 4)
def stake (l : List UInt8) (most : Int) : ByteArray × Int × Int :=
  if (tkI l).2.2 = 0 then
    (if (tkI l).1 > mx most 0 then ((⟨#[]⟩ : ByteArray), 0, 3)
     else if (tkI l).1 > (l.length : Int) - (tkI l).2.1 then ((⟨#[]⟩ : ByteArray), 0, 2)
     else (ba ((l.drop (tkI l).2.1.toNat).take (tkI l).1.toNat), (tkI l).2.1 + (tkI l).1, 0))
  else ((⟨#[]⟩ : ByteArray), 0, (tkI l).2.2)

theorem ktake_ok {l : List UInt8} (h : (ktake l).2.2.2 = 0) : 1 ≤ (ktake l).1 ∧ (ktake l).1 ≤ 255 ∧ 0 ≤ (ktake l).2.1 ∧ (ktake l).2.1 ≤ 1 ∧ 1 ≤ (ktake l).2.2.1 ∧ (ktake l).2.2.1 ≤ l.length := by
  unfold ktake at h ⊢
  by_cases h1 : (tkI l).2.2 = 0
  · rw [if_pos h1] at h ⊢
    by_cases h2 : (tkI l).1 < 2 ∨ (tkI l).1 > 511
    · rw [if_pos h2] at h; exact absurd h (by decide)
    · rw [if_neg h2]
      obtain ⟨n, k, e, _, _, h3, h4, _⟩ := tkI_ok h1
      rw [e] at h2 ⊢
      simp only [] at h2 ⊢
      omega
  · rw [if_neg h1] at h; exact absurd h h1
theorem kskip_range (l : List UInt8) (w : Int) : 0 ≤ (kskip l w).1 ∧ (kskip l w).1 ≤ l.length := by
  have hr := tkI_range l
  unfold kskip
  split
  · simp only []; omega
  · split
    · split
      · split
        · simp only []; omega
        · simp only []; omega
      · simp only []; omega
    · simp only []; omega

/-- The fields of bytes; a tag must be greater than the one ahead. -/
def sp : Nat → List UInt8 → Int → List Int × List ByteArray × Int
  | 0, _, _ => ([], [], 0)
  | f + 1, l, last =>
    if l = [] then ([], [], 0)
    else if (ktake l).2.2.2 = 0 then
      (if (ktake l).1 ≤ last then ([], [], 9)
       else if (kskip (l.drop (ktake l).2.2.1.toNat) (ktake l).2.1).2 = 0 then
         (if (sp f (l.drop ((ktake l).2.2.1 + (kskip (l.drop (ktake l).2.2.1.toNat) (ktake l).2.1).1).toNat) (ktake l).1).2.2 = 0 then
           ((ktake l).1 :: (sp f (l.drop ((ktake l).2.2.1 + (kskip (l.drop (ktake l).2.2.1.toNat) (ktake l).2.1).1).toNat) (ktake l).1).1,
            ba ((l.drop (ktake l).2.2.1.toNat).take (kskip (l.drop (ktake l).2.2.1.toNat) (ktake l).2.1).1.toNat) :: (sp f (l.drop ((ktake l).2.2.1 + (kskip (l.drop (ktake l).2.2.1.toNat) (ktake l).2.1).1).toNat) (ktake l).1).2.1, 0)
          else ([], [], (sp f (l.drop ((ktake l).2.2.1 + (kskip (l.drop (ktake l).2.2.1.toNat) (ktake l).2.1).1).toNat) (ktake l).1).2.2))
       else ([], [], (kskip (l.drop (ktake l).2.2.1.toNat) (ktake l).2.1).2))
    else ([], [], (ktake l).2.2.2)
/-- What was split ahead, with what is split now. -/
def spin (ts : List Int) (ss : List ByteArray) (r : List Int × List ByteArray × Int) : List Int × List ByteArray × Int := if r.2.2 = 0 then (ts ++ r.1, ss ++ r.2.1, 0) else ([], [], r.2.2)

/-- A span's bytes. -/
def span (s : ByteArray) : List UInt8 := enc s.size ++ s.data.toList
/-- The bytes of fields of texts. -/
def jn : List Int → List ByteArray → Int → List UInt8 × Int
  | t :: ts, s :: ss, last =>
    if t < 1 ∨ t > 255 ∨ t ≤ last then ([], 9)
    else if (jn ts ss t).2 = 0 then (enc (2 * t + 1).toNat ++ span s ++ (jn ts ss t).1, 0) else ([], (jn ts ss t).2)
  | _, _, _ => ([], 0)

theorem skip_span (s : ByteArray) (r : List UInt8) (hs : s.size < 18446744073709551616) : kskip (span s ++ r) 1 = ((((enc s.size).length + s.size : Nat) : Int), 0) := by
  unfold kskip span
  rw [if_neg (by decide), if_pos rfl, List.append_assoc, tkI_enc hs]
  simp only [if_true]
  rw [if_neg (by simp only [List.length_append]; rw [← size_len]; omega)]
  rfl
theorem take_key {t : Int} (h0 : 1 ≤ t) (h1 : t ≤ 255) (r : List UInt8) : ktake (enc (2 * t + 1).toNat ++ r) = (t, 1, ((enc (2 * t + 1).toNat).length : Int), 0) := by
  unfold ktake
  rw [tkI_enc (by omega)]
  simp only [if_true]
  rw [if_neg (by omega), show ((2 * t + 1).toNat : Int) / 2 = t by omega, show ((2 * t + 1).toNat : Int) % 2 = 1 by omega]
theorem drop_len {α : Type} (a b : List α) {n : Nat} (h : n = a.length) : (a ++ b).drop n = b := by subst h; simp
theorem take_len {α : Type} (a b : List α) {n : Nat} (h : n = a.length) : (a ++ b).take n = a := by subst h; simp
/-- What is joined is split. -/
theorem sp_jn (f : Nat) : ∀ (ts : List Int) (ss : List ByteArray) (last : Int), ts.length = ss.length → (∀ s ∈ ss, s.size < 9223372036854775808) → 255 < f + last → (jn ts ss last).2 = 0 →
    sp f (jn ts ss last).1 last = (ts, ss.map fun s => ba (span s), 0) := by
  induction f with
  | zero =>
    intro ts ss last hl hs hf h0
    cases ts with
    | nil =>
      cases ss with
      | nil => simp [jn, sp]
      | cons s ss => simp at hl
    | cons t ts =>
      cases ss with
      | nil => simp at hl
      | cons s ss =>
        simp only [jn] at h0
        rw [if_pos (by omega)] at h0
        exact absurd h0 (by decide)
  | succ f ih =>
    intro ts ss last hl hs hf h0
    cases ts with
    | nil =>
      cases ss with
      | nil => simp [jn, sp]
      | cons s ss => simp at hl
    | cons t ts =>
      cases ss with
      | nil => simp at hl
      | cons s ss =>
        simp only [jn] at h0 ⊢
        by_cases h1 : t < 1 ∨ t > 255 ∨ t ≤ last
        · rw [if_pos h1] at h0; exact absurd h0 (by decide)
        · rw [if_neg h1] at h0 ⊢
          by_cases h2 : (jn ts ss t).2 = 0
          · rw [if_pos h2]
            have hss := hs s (by simp)
            have hrec := ih ts ss t (by simpa using hl) (fun x hx => hs x (by simp [hx])) (by omega) h2
            have hk := take_key (t := t) (by omega) (by omega) (span s ++ (jn ts ss t).1)
            have hne : enc (2 * t + 1).toNat ++ span s ++ (jn ts ss t).1 ≠ [] := by
              have := enc_pos (2 * t + 1).toNat
              intro e
              have := congrArg List.length e
              simp only [List.length_append, List.length_nil] at this
              omega
            simp only [sp]
            rw [if_neg hne, List.append_assoc, hk]
            simp only [if_true]
            rw [if_neg (by omega), Int.toNat_natCast, drop_len _ _ rfl, skip_span s _ (by omega)]
            simp only [if_true]
            have hd : ((enc (2 * t + 1).toNat).length + ((enc s.size).length + s.size : Nat) : Int).toNat = (enc (2 * t + 1).toNat ++ span s).length := by
              unfold span; simp only [List.length_append]; rw [← size_len]; omega
            rw [hd, ← List.append_assoc, drop_len _ _ rfl, hrec]
            simp only [if_true]
            rw [Int.toNat_natCast, take_len (span s) _ (by unfold span; simp only [List.length_append]; rw [← size_len])]
            rfl
          · rw [if_neg h2] at h0; exact absurd h0 h2
theorem jn_err : ∀ (ts : List Int) (ss : List ByteArray) (last : Int), (jn ts ss last).2 = 0 ∨ (jn ts ss last) = ([], 9) := by
  intro ts
  induction ts with
  | nil => intro ss last; left; cases ss <;> rfl
  | cons t ts ih =>
    intro ss last
    cases ss with
    | nil => left; rfl
    | cons s ss =>
      simp only [jn]
      split
      · right; rfl
      · rcases ih ss t with h | h
        · rw [if_pos h]; left; rfl
        · rw [h, if_neg (by decide)]; right; rfl
theorem span_take (s : ByteArray) (hs : s.size < 9223372036854775808) : stake (span s) ((span s).length : Int) = (s, ((span s).length : Int), 0) := by
  unfold stake
  have hl : (span s).length = (enc s.size).length + s.size := by unfold span; simp only [List.length_append]; rw [← size_len]
  have hle := enc_len10 (n := s.size) (by omega)
  have ht : tkI (span s) = ((s.size : Int), ((enc s.size).length : Int), 0) := by unfold span; exact tkI_enc (by omega) _
  rw [ht]
  simp only [if_true]
  rw [if_neg (by unfold mx; split <;> omega), if_neg (by omega), Int.toNat_natCast, Int.toNat_natCast]
  have : ba (((span s).drop (enc s.size).length).take s.size) = s := by
    unfold span
    rw [drop_len _ _ rfl, List.take_of_length_le (by rw [← size_len]; omega), ba_eta]
  rw [this, hl]
  rfl
theorem sp_err (f : Nat) : ∀ (l : List UInt8) (last : Int), (sp f l last).2.2 ≠ 0 → ([], [], (sp f l last).2.2) = sp f l last := by
  cases f with
  | zero => intro l last h; exact absurd rfl h
  | succ f =>
    intro l last
    simp only [sp]
    (repeat' split) <;> intro h <;> first | rfl | exact absurd rfl h
theorem sp_len (f : Nat) : ∀ (l : List UInt8) (last : Int), (sp f l last).1.length ≤ f ∧ (sp f l last).2.1.length = (sp f l last).1.length := by
  induction f with
  | zero => intro l last; simp [sp]
  | succ f ih =>
    intro l last
    simp only [sp]
    split
    · simp
    · split
      · split
        · simp
        · split
          · split
            · have := ih (l.drop ((ktake l).2.2.1 + (kskip (l.drop (ktake l).2.2.1.toNat) (ktake l).2.1).1).toNat) (ktake l).1
              simp only [List.length_cons]; omega
            · simp
          · simp
      · simp
end Go.Proofs.Ytklfpiapnhnhkaa.VM
