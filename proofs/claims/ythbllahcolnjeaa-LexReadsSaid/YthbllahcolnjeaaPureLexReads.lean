/- The plain law of LexReads: the tokens that are walked are those of the document's answer, errors and places too. No conditions but the law's own bound. -/
import Derived.Test.YthbllahcolnjeaaPLexReadsx7
import Derived.Test.YthbllahcolnjeaaVB
namespace Go.Proofs.Ythbllahcolnjeaa.Pure
open Go.RowKit Go.Proofs.Ythbllahcolnjeaa.PLexReads Go.Proofs.YthbllahcolnjeaaW.PrintWords Go.Proofs.YthbllahcolnjeaaW.PrintLast Go.Proofs.YthbllahcolnjeaaW.PrintMore Go.Proofs.Ythbllahcolnjeaa.VM
set_option linter.unusedSimpArgs false
set_option linter.unusedVariables false

theorem bt_ext {s : ByteArray} {i j m : Nat} (h : i + m < j) (hj : j ≤ s.size) : bt (s.extract i j) (m : Int) = bt s ((i + m : Nat) : Int) := by
  have h1 : ((m : Nat) : Int).toNat < (s.extract i j).size := by rw [ByteArray.size_extract]; omega
  have h2 : ((i + m : Nat) : Int).toNat < s.size := by omega
  rw [bt, dif_pos h1, bt, dif_pos h2]
  simp only [ByteArray.getElem_eq_getElem_data, ByteArray.data_extract, Array.getElem_extract, Int.toNat_natCast]
theorem runTo_all {p : Int → Bool} {s : ByteArray} : ∀ (d i : Nat), s.size - i = d → ∀ m, i ≤ m → m < runTo p s i → p (bt s m) = true
  | 0, i, h, m, h1, h2 => by rw [runTo, dif_neg (by omega)] at h2; omega
  | d + 1, i, h, m, h1, h2 => by
    rw [runTo, dif_pos (by omega)] at h2
    by_cases hp : p (bt s i) = true
    · rw [if_pos hp] at h2
      by_cases he : m = i
      · rw [he]; exact hp
      · exact runTo_all d (i + 1) (by omega) m (by omega) h2
    · rw [if_neg hp] at h2; omega
def classI (c : Int) : Int := if isLet c then 1 else if isDig c then 2 else if c = 95 then 3 else if isSign c then 4 else if c = 32 ∨ c = 9 ∨ c = 10 ∨ c = 13 then 5 else 0
theorem class_fin : ∀ x : Fin 256, concourseref08_class.f 20 (x.val : Int) = some (classI (x.val : Int)) := by decide +kernel
theorem class_f {k : Nat} (hk : 20 ≤ k) {c : Int} (h0 : 0 ≤ c) (h1 : c ≤ 255) : concourseref08_class.f k c = some (classI c) := by
  obtain ⟨n, rfl⟩ := Int.eq_ofNat_of_zero_le h0
  exact at_rounds (concourseref08_class.mono _) hk (class_fin ⟨n, by omega⟩)
theorem end_l {s : ByteArray} (hs : s.size ≤ 1024) (a b c : Int) : ∀ (d i k : Nat), s.size - i = d → 21 + d ≤ k → i ≤ s.size →
    concourseref08_end.l0 k s (i : Int) a b c = some ((runTo (fun x => classI x == a || classI x == b || classI x == c) s i : Nat) : Int)
  | d, i, 0, h, hk, hi => by omega
  | d, i, k + 1, h, hk, hi => by
    rw [concourseref08_end.l0]
    by_cases h1 : i < s.size
    · have hb := bt_range s i
      rw [if_pos (by omega), if_pos (by omega), class_f (by omega) hb.1 hb.2, runTo, dif_pos h1]
      simp only [Option.bind_some]
      have ih : concourseref08_end.l0 k s (wrap64 ((i : Int) + 1)) a b c = some ((runTo (fun x => classI x == a || classI x == b || classI x == c) s (i + 1) : Nat) : Int) := by
        rw [w64 (by omega) (by omega)]
        cases d with
        | zero => omega
        | succ d => exact end_l hs a b c d (i + 1) k (by omega) (by omega) (by omega)
      rw [ih]
      by_cases e1 : classI (bt s i) = a
      · rw [if_pos e1, if_pos (by simp [e1])]
      · rw [if_neg e1]
        by_cases e2 : classI (bt s i) = b
        · rw [if_pos e2, if_pos (by simp [e2])]
        · rw [if_neg e2]
          by_cases e3 : classI (bt s i) = c
          · rw [if_pos e3, if_pos (by simp [e3])]
          · rw [if_neg e3, if_neg (by simp [e1, e2, e3])]
    · rw [if_neg (by omega), runTo, dif_neg h1]
theorem let_dig {c : Int} (h : isDig c = true) : isLet c = false := by
  simp only [isDig, isLet, Bool.and_eq_true, decide_eq_true_eq] at *
  simp; omega
theorem cls_inn : (fun x => classI x == 1 || classI x == 2 || classI x == 3) = isInn := by
  funext c
  unfold classI isInn
  by_cases h1 : isLet c = true
  · simp [h1]
  · by_cases h2 : isDig c = true
    · simp [h1, h2]
    · by_cases h3 : c = 95
      · subst h3; decide
      · have e : (c == 95) = false := beq_eq_false_iff_ne.mpr h3
        rw [if_neg h1, if_neg h2, if_neg h3, Bool.eq_false_iff.mpr h1, Bool.eq_false_iff.mpr h2, e]
        split
        · rfl
        · split <;> rfl
theorem cls_dig : (fun x => classI x == 2 || classI x == 2 || classI x == 2) = isDig := by
  funext c
  unfold classI
  by_cases h1 : isLet c = true
  · have : isDig c = false := by
      cases h : isDig c
      · rfl
      · rw [let_dig h] at h1; exact absurd h1 (by simp)
    rw [if_pos h1, this]; rfl
  · by_cases h2 : isDig c = true
    · simp [h1, h2]
    · rw [if_neg h1, if_neg h2, Bool.eq_false_iff.mpr h2]
      by_cases h3 : c = 95
      · rw [if_pos h3]; rfl
      · rw [if_neg h3]
        split
        · rfl
        · split <;> rfl
theorem end_inn {s : ByteArray} (hs : s.size ≤ 1024) {i k : Nat} (hi : i ≤ s.size) (hk : 1100 ≤ k) : concourseref08_end.f k s (i : Int) 1 2 3 = some ((runTo isInn s i : Nat) : Int) := by
  rw [concourseref08_end.f, end_l hs 1 2 3 _ i k rfl (by omega) hi, cls_inn]
theorem end_dig {s : ByteArray} (hs : s.size ≤ 1024) {i k : Nat} (hi : i ≤ s.size) (hk : 1100 ≤ k) : concourseref08_end.f k s (i : Int) 2 2 2 = some ((runTo isDig s i : Nat) : Int) := by
  rw [concourseref08_end.f, end_l hs 2 2 2 _ i k rfl (by omega) hi, cls_dig]
theorem num_step {n b : Int} (h0 : 48 ≤ b) (h1 : b ≤ 57) : wrap64 (wrap64 (wrap64 (10 * n) + wrap64 b) - 48) = wrap64 (wrap64 (10 * n) + IntKind.u8.wrap (b - 48)) := by
  have : IntKind.u8.wrap (b - 48) = b - 48 := by simp [IntKind.wrap, IntKind.bits, IntKind.signed]; omega
  rw [this]; unfold wrap64; omega
theorem num_l {t : ByteArray} (hz : t.size ≤ 1024) (ht : ∀ m : Nat, m < t.size → isDig (bt t m) = true) : ∀ (d i k : Nat) (n : Int), t.size - i = d → 1 + d ≤ k → concourseref08_number.l0 k t n (i : Int) = some (numFrom t i n, 0)
  | d, i, 0, n, h, hk => by omega
  | d, i, k + 1, n, h, hk => by
    rw [concourseref08_number.l0, numFrom]
    by_cases h1 : i < t.size
    · have hd := ht i h1
      simp only [isDig, Bool.and_eq_true, decide_eq_true_eq] at hd
      rw [if_pos (by omega), if_pos (by omega), if_pos h1, num_step hd.1 hd.2, w64 (n := (i : Int) + 1) (by omega) (by omega)]
      cases d with
      | zero => omega
      | succ d => exact num_l hz ht d (i + 1) k _ (by omega) (by omega)
    · rw [if_neg (by omega), if_neg h1]
theorem num_f {t : ByteArray} (hz : t.size ≤ 1024) (ht : ∀ m : Nat, m < t.size → isDig (bt t m) = true) {k : Nat} (hk : 1100 ≤ k) : concourseref08_number.f k t = some ((numSpec t).2, (numSpec t).1) := by
  obtain ⟨k, rfl⟩ : ∃ j, k = j + 1 := ⟨k - 1, by omega⟩
  unfold concourseref08_number.f numSpec
  have hl := num_l hz ht _ 0 k 0 rfl (by omega)
  by_cases h1 : 1 < t.size
  · rw [if_pos (show (t.size : Int) > 1 by omega), if_pos (show 0 < (t.size : Int) by omega), concourseref08_number.j0]
    by_cases h2 : bt t 0 = 48
    · rw [if_pos (by rw [h2]; rfl), if_pos ⟨h1, h2⟩]
    · rw [if_neg (by simpa using h2), if_neg (show ¬ (1 < t.size ∧ bt t 0 = 48) from fun h => h2 h.2)]
      by_cases h3 : 4 < t.size
      · rw [if_pos (show (t.size : Int) > 4 by omega), if_pos h3]
      · rw [if_neg (show ¬ (t.size : Int) > 4 by omega), if_neg h3]; exact hl
  · rw [if_neg (show ¬ (t.size : Int) > 1 by omega), concourseref08_number.j0, if_neg (by simp), if_neg (show ¬ (t.size : Int) > 4 by omega), if_neg (show ¬ (1 < t.size ∧ bt t 0 = 48) from fun h => h1 h.1), if_neg (show ¬ 4 < t.size by omega)]; exact hl
theorem note_l {s : ByteArray} (hs : s.size ≤ 1024) (a : Int) (b : ByteArray) (c e : Int) : ∀ (d i k : Nat), s.size - i = d → 1 + d ≤ k →
    concourseref08_one.l0 k s (i : Int) a b c e = some (a, b, c, e, ((if i ≤ s.size then runTo isOut s i else i : Nat) : Int), 0)
  | d, i, 0, h, hk => by omega
  | d, i, k + 1, h, hk => by
    rw [concourseref08_one.l0]
    by_cases h1 : i < s.size
    · rw [if_pos (by omega), if_pos (by omega), if_pos (show i ≤ s.size by omega), runTo, dif_pos h1]
      by_cases h2 : bt s i = 10
      · rw [if_pos h2, if_neg (by rw [isOut, h2]; simp)]
      · rw [if_neg h2, if_pos (by simp [isOut, h2]), w64 (by omega) (by omega)]
        cases d with
        | zero => omega
        | succ d =>
          have := note_l hs a b c e d (i + 1) k (by omega) (by omega)
          rw [if_pos (by omega)] at this
          exact this
    · rw [if_neg (by omega)]
      by_cases h2 : i ≤ s.size
      · rw [if_pos h2, runTo, dif_neg h1]
      · rw [if_neg h2]
theorem dig_all {s : ByteArray} {i : Nat} (hi : i < s.size) (h : isDig (bt s i) = true) : ∀ m : Nat, m < (s.extract i (runTo isDig s i)).size → isDig (bt (s.extract i (runTo isDig s i)) m) = true := by
  intro m hm
  have hj := runTo_step hi h
  rw [ByteArray.size_extract] at hm
  rw [bt_ext (by omega) hj.2]
  exact runTo_all _ i rfl (i + m) (by omega) (by omega)
theorem cls_of {c : Int} (h1 : ¬ isLet c = true) (h2 : ¬ isDig c = true) : classI c = if c = 95 then 3 else if isSign c then 4 else if c = 32 ∨ c = 9 ∨ c = 10 ∨ c = 13 then 5 else 0 := by
  rw [classI, if_neg h1, if_neg h2]
theorem sign_not {c : Int} (h : isSign c = true) : ¬ c = 95 ∧ ¬ c = 47 ∧ ¬ (c = 32 ∨ c = 9 ∨ c = 10 ∨ c = 13) := by
  simp only [isSign, Bool.or_eq_true, beq_iff_eq] at h
  omega
theorem has2_at {s : ByteArray} {i : Nat} (hi : i < s.size) (h : bt s i = 47) : has2 (s.extract i s.size) = (decide (i + 1 < s.size) && bt s ((i + 1 : Nat) : Int) == 47) := by
  unfold has2
  rw [ByteArray.size_extract]
  have e0 : bt (s.extract i s.size) 0 = 47 := by
    have := bt_ext (s := s) (i := i) (j := s.size) (m := 0) (by omega) (Nat.le_refl _)
    rw [Nat.add_zero, h] at this; exact this
  rw [e0]
  by_cases h1 : i + 1 < s.size
  · have e1 : bt (s.extract i s.size) 1 = bt s ((i + 1 : Nat) : Int) := bt_ext (s := s) (i := i) (j := s.size) (m := 1) (by omega) (Nat.le_refl _)
    rw [e1, decide_eq_true (by omega), decide_eq_true h1]; rfl
  · rw [decide_eq_false (by omega), decide_eq_false h1]; rfl
theorem one_f {s : ByteArray} (hs : s.size ≤ 1024) {i : Nat} (hi : i < s.size) {k : Nat} (hk : 1200 ≤ k) :
    ∃ t0 t1 t2 t3 tt, concourseref08_one.f k s (i : Int) = some (t0, t1, t2, t3, tt, (oneSpec s i).1) ∧
      ((oneSpec s i).1 = 0 → tt = (((oneSpec s i).2.1 : Nat) : Int) ∧ ((0 < t0 ∧ (oneSpec s i).2.2 = [(⟨t0, t1, t2, t3⟩ : S33)]) ∨ (t0 = 0 ∧ (oneSpec s i).2.2 = []))) := by
  have hb := bt_range s i
  have w1 : wrap64 ((i : Int) + 1) = ((i + 1 : Nat) : Int) := by rw [w64 (by omega) (by omega)]; rfl
  unfold concourseref08_one.f
  rw [if_pos (by omega), if_pos (by omega), class_f (by omega) hb.1 hb.2]
  simp only [Option.bind_some, w1]
  by_cases h1 : isLet (bt s i) = true
  · have hc : classI (bt s i) = 1 := by rw [classI, if_pos h1]
    have hj := runTo_step hi (inn_of_let h1)
    have ho : oneSpec s i = wordSpec s i := by rw [oneSpec, if_pos h1]
    rw [hc, if_pos rfl, end_inn hs (by omega) (by omega), ho, wordSpec]
    simp only [Option.bind_some]
    have hz : (s.extract i (runTo isInn s i)).size = runTo isInn s i - i := by rw [ByteArray.size_extract]; omega
    by_cases h2 : 16 < runTo isInn s i - i
    · rw [if_pos (by rw [w64 (by omega) (by omega)]; omega), if_pos (by rw [hz]; exact h2)]
      exact ⟨_, _, _, _, _, rfl, fun h => by simp at h⟩
    · rw [if_neg (by rw [w64 (by omega) (by omega)]; omega), if_pos (by omega), if_pos (by omega), if_neg (by rw [hz]; exact h2)]
      exact ⟨_, _, _, _, _, rfl, fun _ => ⟨rfl, .inl ⟨by decide, rfl⟩⟩⟩
  · by_cases h2 : isDig (bt s i) = true
    · have hc : classI (bt s i) = 2 := by rw [classI, if_neg h1, if_pos h2]
      have hj := runTo_step hi h2
      have ho : oneSpec s i = numberSpec s i := by rw [oneSpec, if_neg h1, if_pos h2]
      rw [hc, if_neg (by decide), if_pos rfl, end_dig hs (by omega) (by omega), ho, numberSpec]
      simp only [Option.bind_some, Int.toNat_natCast]
      have hz : (s.extract i (runTo isDig s i)).size ≤ 1024 := by rw [ByteArray.size_extract]; omega
      rw [if_pos (by omega), if_pos (by omega), num_f hz (dig_all hi h2) (by omega)]
      simp only [Option.bind_some]
      by_cases h3 : (numSpec (s.extract i (runTo isDig s i))).1 = 0
      · rw [if_pos h3, h3]
        exact ⟨_, _, _, _, _, rfl, fun _ => ⟨rfl, .inl ⟨by decide, rfl⟩⟩⟩
      · rw [if_neg h3]
        exact ⟨_, _, _, _, _, rfl, fun h => absurd h h3⟩
    · have hc := cls_of h1 h2
      have n1 : ¬ classI (bt s i) = 1 := by rw [hc]; (repeat' split) <;> decide
      have n2 : ¬ classI (bt s i) = 2 := by rw [hc]; (repeat' split) <;> decide
      rw [if_neg n1, if_neg n2]
      by_cases h6 : isSign (bt s i) = true
      · obtain ⟨a1, a2, a3⟩ := sign_not h6
        have ho : oneSpec s i = (0, i + 1, [⟨3, s.extract i (i + 1), 0, (i : Int)⟩]) := by rw [oneSpec, if_neg h1, if_neg h2, if_neg a2, if_neg a3, if_pos h6]
        rw [if_pos (by rw [hc, if_neg a1, if_pos h6]), if_pos (by omega), if_pos (by omega), ho]
        simp only [Int.toNat_natCast]
        exact ⟨_, _, _, _, _, rfl, fun _ => ⟨rfl, .inl ⟨by decide, rfl⟩⟩⟩
      · have n4 : ¬ classI (bt s i) = 4 := by rw [hc, if_neg h6]; (repeat' split) <;> decide
        rw [if_neg n4]
        by_cases h5 : bt s i = 32 ∨ bt s i = 9 ∨ bt s i = 10 ∨ bt s i = 13
        · have ho : oneSpec s i = (0, i + 1, []) := by rw [oneSpec, if_neg h1, if_neg h2, if_neg (by omega), if_pos h5]
          rw [if_pos (by rw [hc, if_neg (by omega), if_neg h6, if_pos h5]), ho]
          exact ⟨_, _, _, _, _, rfl, fun _ => ⟨rfl, .inr ⟨rfl, rfl⟩⟩⟩
        · have n5 : ¬ classI (bt s i) = 5 := by rw [hc, if_neg h6, if_neg h5]; split <;> decide
          rw [if_neg n5]
          obtain ⟨k, rfl⟩ : ∃ j, k = j + 1 := ⟨k - 1, by omega⟩
          by_cases h3 : bt s i = 47
          · rw [if_pos h3]
            have hh := has2_at hi h3
            by_cases h7 : i + 1 < s.size
            · rw [if_neg (by omega), if_pos (by omega), if_pos (by omega), concourseref08_one.j0]
              by_cases h8 : bt s ((i + 1 : Nat) : Int) = 47
              · have hn : noteSpec s i = (true, runTo isOut s i) := by rw [noteSpec, if_pos (by rw [hh, decide_eq_true h7, h8]; rfl)]
                have ho : oneSpec s i = (0, runTo isOut s i, []) := by rw [oneSpec, if_neg h1, if_neg h2, if_pos h3, hn]; rfl
                rw [if_neg (by rw [h8]; decide), note_l hs _ _ _ _ _ i k rfl (by omega), ho, if_pos (by omega)]
                exact ⟨_, _, _, _, _, rfl, fun _ => ⟨rfl, .inr ⟨rfl, rfl⟩⟩⟩
              · have hn : noteSpec s i = (false, i) := by rw [noteSpec, if_neg (by rw [hh, beq_eq_false_iff_ne.mpr h8]; simp)]
                have ho : oneSpec s i = (5, i, []) := by rw [oneSpec, if_neg h1, if_neg h2, if_pos h3, hn]; rfl
                rw [if_pos (by simpa using h8), ho]
                exact ⟨_, _, _, _, _, rfl, fun h => by simp at h⟩
            · have hn : noteSpec s i = (false, i) := by rw [noteSpec, if_neg (by rw [hh, decide_eq_false h7]; simp)]
              have ho : oneSpec s i = (5, i, []) := by rw [oneSpec, if_neg h1, if_neg h2, if_pos h3, hn]; rfl
              rw [if_pos (by omega), concourseref08_one.j0, if_pos rfl, ho]
              exact ⟨_, _, _, _, _, rfl, fun h => by simp at h⟩
          · have ho : oneSpec s i = (5, i, []) := by rw [oneSpec, if_neg h1, if_neg h2, if_neg h3, if_neg h5, if_neg h6]
            rw [if_neg h3, concourseref08_one.j0, if_pos rfl, ho]
            exact ⟨_, _, _, _, _, rfl, fun h => by simp at h⟩
theorem toks_l {s : ByteArray} (hs : s.size ≤ 1024) : ∀ (d i k k' : Nat) (acc : List S33), s.size - i = d → i ≤ s.size → 1201 + d ≤ k → s.size < i + k' → acc.length ≤ i →
    concourseref08_Tokens.l0 k s acc (i : Int) = some (tokFrom s k' i acc) := by
  intro d
  induction d using Nat.strongRecOn with
  | _ d ih =>
    intro i k k' acc h hi hk hk' ha
    obtain ⟨k, rfl⟩ : ∃ j, k = j + 1 := ⟨k - 1, by omega⟩
    obtain ⟨k', rfl⟩ : ∃ j, k' = j + 1 := ⟨k' - 1, by omega⟩
    rw [concourseref08_Tokens.l0, tokFrom]
    by_cases h1 : i < s.size
    · rw [if_pos (by omega), if_pos h1]
      obtain ⟨t0, t1, t2, t3, tt, hf, hx⟩ := one_f hs h1 (k := k) (by omega)
      have hok := oneSpec_ok h1
      rw [hf]
      simp only [Option.bind_some]
      by_cases h2 : (oneSpec s i).1 = 0
      · rw [if_pos h2, if_pos h2]
        obtain ⟨rfl, hl⟩ := hx h2
        obtain ⟨o1, o2, o3⟩ := hok h2
        rcases hl with ⟨hp, he⟩ | ⟨hp, he⟩
        · rw [if_pos hp, if_pos (by omega), he]
          exact ih (s.size - (oneSpec s i).2.1) (by omega) _ _ _ _ rfl o2 (by omega) (by omega) (by rw [List.length_append]; simp; omega)
        · rw [if_neg (by omega), he, List.append_nil]
          exact ih (s.size - (oneSpec s i).2.1) (by omega) _ _ _ _ rfl o2 (by omega) (by omega) (by omega)
      · rw [if_neg h2, if_neg h2]
    · rw [if_neg (by omega), if_neg h1, if_pos (by omega)]
theorem toks_f (s : ByteArray) {k : Nat} (hk : 2300 ≤ k) : concourseref08_Tokens.f k s = some (lexSpec s) := by
  unfold concourseref08_Tokens.f lexSpec
  by_cases h : 1024 < s.size
  · rw [if_pos (by omega), if_pos h]
  · rw [if_neg (by omega), if_neg h]
    exact toks_l (by omega) _ 0 k _ [] rfl (by omega) (by omega) (by omega) (by simp)
theorem same_l (b : Bool) (l : List S33) (hz : l.length ≤ 5000) : ∀ (d i k : Nat), l.length - i = d → 1 + d ≤ k → concourseref08_Same.l0 k l l b (i : Int) = some true
  | d, i, 0, h, hk => by omega
  | d, i, k + 1, h, hk => by
    rw [concourseref08_Same.l0]
    by_cases h1 : i < l.length
    · have ih : concourseref08_Same.l0 k l l b (wrap64 ((i : Int) + 1)) = some true := by
        rw [w64 (by omega) (by omega)]
        cases d with
        | zero => omega
        | succ d => exact same_l b l hz d (i + 1) k (by omega) (by omega)
      rw [if_pos (by omega), if_pos (by omega), if_pos (by omega), if_pos rfl, if_pos rfl, if_pos rfl, ih]
      cases b
      · rfl
      · rw [if_pos rfl, if_pos rfl]
    · rw [if_neg (by omega)]
theorem same_f (b : Bool) (l : List S33) (hz : l.length ≤ 5000) {k : Nat} (hk : 5001 ≤ k) : concourseref08_Same.f k l l b = some true := by
  rw [concourseref08_Same.f, if_pos rfl]
  exact same_l b l hz _ 0 k rfl (by omega)
theorem tok_len {s : ByteArray} : ∀ (k i : Nat) (acc : List S33), i ≤ s.size → acc.length ≤ i → (tokFrom s k i acc).1.length ≤ s.size + 1
  | 0, i, acc, hi, ha => by rw [tokFrom]; show acc.length ≤ _; omega
  | k + 1, i, acc, hi, ha => by
    rw [tokFrom]
    by_cases h1 : i < s.size
    · rw [if_pos h1]
      by_cases h2 : (oneSpec s i).1 = 0
      · have h := oneSpec_ok h1 h2
        rw [if_pos h2]
        exact tok_len k _ _ h.2.1 (by rw [List.length_append]; omega)
      · rw [if_neg h2]; exact Nat.zero_le _
    · rw [if_neg h1]; simp; omega
theorem lex_len (s : ByteArray) : (lexSpec s).1.length ≤ 1025 := by
  unfold lexSpec
  by_cases h : 1024 < s.size
  · rw [if_pos h]; exact Nat.zero_le _
  · rw [if_neg h]
    have := tok_len (s := s) (s.size + 1) 0 [] (by omega) (by simp)
    omega
theorem awake_f : concourselaw08_awake.f = some true := by decide +kernel

theorem LexReads : concourselaw08_LexReads.Pure := by
  intro s _
  refine ⟨6000, ?_⟩
  unfold concourselaw08_LexReads.f lex_Tokens.f
  rw [toks_f s (by omega)]
  simp only [Option.bind_some]
  rw [same_f true _ (by have := lex_len s; omega) (by omega), awake_f]
  simp

end Go.Proofs.Ythbllahcolnjeaa.Pure
