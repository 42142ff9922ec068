/- The plain law of LexRises: tokens come one behind the other, each as long as its text, the last one is the text's end; an error's place stands in the text. No conditions but the law's own bound. -/
import Derived.Test.YthbllahcolnjeaaPLexRisesx4
import Derived.Test.YthbllahcolnjeaaVB
namespace Go.Proofs.Ythbllahcolnjeaa.Pure
open Go.RowKit Go.Proofs.Ythbllahcolnjeaa.PLexRises Go.Proofs.YthbllahcolnjeaaW.PrintWords Go.Proofs.YthbllahcolnjeaaW.PrintLast Go.Proofs.YthbllahcolnjeaaW.PrintMore Go.Proofs.Ythbllahcolnjeaa.VM
set_option linter.unusedSimpArgs false
set_option linter.unusedVariables false

theorem bt_ext {s : ByteArray} {i j m : Nat} (h : i + m < j) (hj : j ≤ s.size) : bt (s.extract i j) (m : Int) = bt s ((i + m : Nat) : Int) := by
  have h1 : ((m : Nat) : Int).toNat < (s.extract i j).size := by rw [ByteArray.size_extract]; omega
  have h2 : ((i + m : Nat) : Int).toNat < s.size := by omega
  rw [bt, dif_pos h1, bt, dif_pos h2]
  simp only [ByteArray.getElem_eq_getElem_data, ByteArray.data_extract, Array.getElem_extract, Int.toNat_natCast]
theorem runTo_all {p : Int → Bool} {s : ByteArray} : ∀ (d i : Nat), s.size - i = d → ∀ m, i ≤ m → m < runTo p s i → p (bt s m) = true
  | 0, i, h, m, h1, h2 => by rw [runTo, dif_neg (by omega)] at h2; omega
  | d + 1, i, h, m, h1, h2 => by
    rw [runTo, dif_pos (by omega)] at h2
    by_cases hp : p (bt s i) = true
    · rw [if_pos hp] at h2
      by_cases he : m = i
      · rw [he]; exact hp
      · exact runTo_all d (i + 1) (by omega) m (by omega) h2
    · rw [if_neg hp] at h2; omega
theorem tok_len {s : ByteArray} : ∀ (k i : Nat) (acc : List S33), i ≤ s.size → acc.length ≤ i → (tokFrom s k i acc).1.length ≤ s.size + 1
  | 0, i, acc, hi, ha => by rw [tokFrom]; show acc.length ≤ _; omega
  | k + 1, i, acc, hi, ha => by
    rw [tokFrom]
    by_cases h1 : i < s.size
    · rw [if_pos h1]
      by_cases h2 : (oneSpec s i).1 = 0
      · have h := oneSpec_ok h1 h2
        rw [if_pos h2]
        exact tok_len k _ _ h.2.1 (by rw [List.length_append]; omega)
      · rw [if_neg h2]; exact Nat.zero_le _
    · rw [if_neg h1]; simp; omega
theorem lex_len (s : ByteArray) : (lexSpec s).1.length ≤ 1025 := by
  unfold lexSpec
  by_cases h : 1024 < s.size
  · rw [if_pos h]; exact Nat.zero_le _
  · rw [if_neg h]
    have := tok_len (s := s) (s.size + 1) 0 [] (by omega) (by simp)
    omega
theorem awake_f : concourselaw08_awake.f = some true := by decide +kernel
def toksOf (s : ByteArray) : Nat → Nat → List S33 × Int × Int
  | 0, _ => ([], 0, 0)
  | k + 1, i => if i < s.size then (if (oneSpec s i).1 = 0 then ((oneSpec s i).2.2 ++ (toksOf s k (oneSpec s i).2.1).1, (toksOf s k (oneSpec s i).2.1).2) else ([], (oneSpec s i).1, (i : Int))) else ([⟨4, ⟨#[]⟩, 0, (s.size : Int)⟩], 0, 0)
theorem tok_of (s : ByteArray) : ∀ (k i : Nat) (acc : List S33), tokFrom s k i acc = if (toksOf s k i).2.1 = 0 then (acc ++ (toksOf s k i).1, (toksOf s k i).2) else ([], (toksOf s k i).2)
  | 0, i, acc => by simp [tokFrom, toksOf]
  | k + 1, i, acc => by
    rw [tokFrom, toksOf]
    by_cases h1 : i < s.size
    · rw [if_pos h1, if_pos h1]
      by_cases h2 : (oneSpec s i).1 = 0
      · rw [if_pos h2, if_pos h2, tok_of s k]
        simp only [List.append_assoc]
      · rw [if_neg h2, if_neg h2]
        simp only
        rw [if_neg h2]
    · rw [if_neg h1, if_neg h1]; simp
theorem lex_of {s : ByteArray} (h : s.size ≤ 1024) : lexSpec s = if (toksOf s (s.size + 1) 0).2.1 = 0 then ((toksOf s (s.size + 1) 0).1, (toksOf s (s.size + 1) 0).2) else ([], (toksOf s (s.size + 1) 0).2) := by
  rw [lexSpec, if_neg (by omega), tok_of]; simp
theorem of_err {s : ByteArray} : ∀ (k i : Nat), i ≤ s.size → (toksOf s k i).2.1 ≠ 0 → ∃ j : Nat, (toksOf s k i).2.2 = (j : Int) ∧ j < s.size
  | 0, i, hi, h => by simp [toksOf] at h
  | k + 1, i, hi, h => by
    rw [toksOf] at h ⊢
    by_cases h1 : i < s.size
    · rw [if_pos h1] at h ⊢
      by_cases h2 : (oneSpec s i).1 = 0
      · rw [if_pos h2] at h ⊢
        exact of_err k _ (oneSpec_ok h1 h2).2.1 h
      · rw [if_neg h2]; exact ⟨i, rfl, h1⟩
    · rw [if_neg h1] at h; simp at h
theorem of_ok {s : ByteArray} : ∀ (k i : Nat), (toksOf s k i).2.1 = 0 → (toksOf s k i).2.2 = 0
  | 0, i, h => rfl
  | k + 1, i, h => by
    rw [toksOf] at h ⊢
    by_cases h1 : i < s.size
    · rw [if_pos h1] at h ⊢
      by_cases h2 : (oneSpec s i).1 = 0
      · rw [if_pos h2] at h ⊢
        exact of_ok k _ h
      · rw [if_neg h2] at h; exact absurd h h2
    · rw [if_neg h1]
theorem one_tok {s : ByteArray} {i : Nat} (hi : i < s.size) : (oneSpec s i).1 = 0 → (oneSpec s i).2.2 = [] ∨ ∃ kd nu, kd ≠ 4 ∧ (oneSpec s i).2.2 = [(⟨kd, s.extract i (oneSpec s i).2.1, nu, (i : Int)⟩ : S33)] := by
  unfold oneSpec
  by_cases h1 : isLet (bt s i) = true
  · simp only [if_pos h1]
    unfold wordSpec
    split
    · intro h; simp at h
    · intro _; exact .inr ⟨1, 0, by decide, rfl⟩
  · simp only [if_neg h1]
    by_cases h2 : isDig (bt s i) = true
    · simp only [if_pos h2]
      unfold numberSpec
      split
      · intro _; exact .inr ⟨2, _, by decide, rfl⟩
      · intro _; exact .inl rfl
    · simp only [if_neg h2]
      by_cases h3 : bt s i = 47
      · simp only [if_pos h3]
        split <;> exact fun _ => .inl rfl
      · simp only [if_neg h3]
        split
        · exact fun _ => .inl rfl
        · split
          · intro _; exact .inr ⟨3, 0, by decide, rfl⟩
          · exact fun _ => .inl rfl
def Chain (s : ByteArray) : Nat → List S33 → Prop
  | a, [] => a = s.size
  | a, t :: r => ∃ p n : Nat, t.f3 = (p : Int) ∧ t.f1.size = n ∧ a ≤ p ∧ p + n ≤ s.size ∧ s.extract p (p + n) = t.f1 ∧ (t.f0 = 4 ↔ r = []) ∧ Chain s (p + n) r
theorem of_chain {s : ByteArray} : ∀ (k i a : Nat), a ≤ i → i ≤ s.size → s.size < i + k → (toksOf s k i).2.1 = 0 → Chain s a (toksOf s k i).1 ∧ (toksOf s k i).1 ≠ []
  | 0, i, a, ha, hi, hk, h => by omega
  | k + 1, i, a, ha, hi, hk, h => by
    rw [toksOf] at h ⊢
    by_cases h1 : i < s.size
    · rw [if_pos h1] at h ⊢
      by_cases h2 : (oneSpec s i).1 = 0
      · rw [if_pos h2] at h ⊢
        obtain ⟨o1, o2, o3⟩ := oneSpec_ok h1 h2
        rcases one_tok h1 h2 with he | ⟨kd, nu, hk4, he⟩
        · rw [he]
          exact of_chain k _ a (by omega) o2 (by omega) h
        · rw [he]
          have ih := of_chain k (oneSpec s i).2.1 (oneSpec s i).2.1 (Nat.le_refl _) o2 (by omega) h
          have hz : (s.extract i (oneSpec s i).2.1).size = (oneSpec s i).2.1 - i := by rw [ByteArray.size_extract]; omega
          have hp : i + ((oneSpec s i).2.1 - i) = (oneSpec s i).2.1 := by omega
          refine ⟨⟨i, (oneSpec s i).2.1 - i, rfl, hz, ha, by omega, by rw [hp], ⟨fun h4 => absurd h4 hk4, fun h4 => absurd h4 ih.2⟩, ?_⟩, by simp⟩
          rw [hp]; exact ih.1
      · rw [if_neg h2] at h; exact absurd h h2
    · rw [if_neg h1]
      have : i = s.size := by omega
      have hz : ByteArray.size ⟨#[]⟩ = 0 := rfl
      refine ⟨⟨s.size, 0, rfl, rfl, by omega, by omega, ?_, by simp, rfl⟩, by simp⟩
      apply ByteArray.ext
      rw [ByteArray.data_extract]
      simp
theorem rise_arith {p n a z i m : Nat} (hs : z ≤ 1024) (hz : m ≤ 5000) (hn : n ≤ z) (hap : a ≤ p) (hpn : p + n ≤ z) (hi : i < m) :
    wrap64 ((z : Int) - (n : Int)) = ((z - n : Nat) : Int) ∧ wrap64 ((p : Int) + (n : Int)) = ((p + n : Nat) : Int) ∧ wrap64 ((i : Int) + 1) = ((i + 1 : Nat) : Int) ∧ wrap64 ((m : Int) - 1) = ((m - 1 : Nat) : Int) ∧
    (i : Int) < (m : Int) ∧ (0 : Int) ≤ (i : Int) ∧ ¬ (p : Int) < (a : Int) ∧ ¬ (p : Int) > ((z - n : Nat) : Int) ∧ (0 : Int) ≤ (p : Int) ∧ (p : Int) ≤ ((p + n : Nat) : Int) ∧ ((p + n : Nat) : Int) ≤ (z : Int) := by
  refine ⟨?_, ?_, ?_, ?_, ?_, ?_, ?_, ?_, ?_, ?_, ?_⟩
  · rw [w64 (by omega) (by omega)]; omega
  · rw [w64 (by omega) (by omega)]; omega
  · rw [w64 (by omega) (by omega)]; omega
  · rw [w64 (by omega) (by omega)]; omega
  all_goals omega
theorem rise_l {s : ByteArray} (hs : s.size ≤ 1024) {l : List S33} (hz : l.length ≤ 5000) : ∀ (r pre : List S33) (a k : Nat), l = pre ++ r → r.length < k → Chain s a r →
    concourselaw08_LexRises.l0 k s l (a : Int) (pre.length : Int) = some true := by
  intro r
  induction r with
  | nil =>
    intro pre a k hl hk hc
    obtain ⟨k, rfl⟩ : ∃ j, k = j + 1 := ⟨k - 1, by omega⟩
    have hl2 : l.length = pre.length := by rw [hl, List.length_append]; rfl
    have hc : a = s.size := hc
    have c1 : ¬ (pre.length : Int) < (l.length : Int) := by omega
    have c2 : (a : Int) = (s.size : Int) := by omega
    rw [concourselaw08_LexRises.l0, if_neg c1, if_pos c2, awake_f]; rfl
  | cons t r ih =>
    intro pre a k hl hk hc
    obtain ⟨k, rfl⟩ : ∃ j, k = j + 1 := ⟨k - 1, by omega⟩
    have hl2 : l.length = pre.length + (r.length + 1) := by rw [hl, List.length_append]; rfl
    obtain ⟨p, n, h3, hn, hap, hpn, hx, h4, hc⟩ := hc
    have hrd : rd_T33 l (pre.length : Int) = t := by
      rw [rd_T33, Int.toNat_natCast, hl]; simp
    have ih := ih (pre ++ [t]) (p + n) k (by rw [hl]; simp) (by simp only [List.length_cons] at hk; omega) hc
    have hn2 : n ≤ s.size := Nat.le_trans (Nat.le_add_left n p) hpn
    obtain ⟨e1, e2, e3, e4, c1, c2, c3, c4, c5, c6, c7⟩ := rise_arith (z := s.size) (i := pre.length) (m := l.length) hs hz hn2 hap hpn (by rw [hl2]; exact Nat.lt_add_of_pos_right (Nat.succ_pos _))
    have e3 : wrap64 ((pre.length : Int) + 1) = ((pre ++ [t]).length : Int) := by rw [e3, List.length_append]; rfl
    have c8 : (s.extract (p : Int).toNat ((p + n : Nat) : Int).toNat).toList = t.f1.toList := by rw [Int.toNat_natCast, Int.toNat_natCast, hx]
    have c9 : ¬ ((t.f0 == 4) != ((pre.length : Int) == ((l.length - 1 : Nat) : Int))) = true := by
      by_cases hr : r = []
      · have z : t.f0 = 4 := h4.mpr hr
        have y : (pre.length : Int) = ((l.length - 1 : Nat) : Int) := by rw [hl2, hr]; rfl
        rw [z, ← y]; simp
      · have h5 : ¬ t.f0 = 4 := fun h => hr (h4.mp h)
        have h6 : r.length ≠ 0 := fun h => hr (List.length_eq_zero_iff.mp h)
        have y : ¬ (pre.length : Int) = ((l.length - 1 : Nat) : Int) := by rw [hl2]; clear e1 e2 e3 e4 c1 c2 c3 c4 c5 c6 c7 c8 ih hc h4 h5 h3 hrd hx hk hl hr; omega
        rw [beq_eq_false_iff_ne.mpr h5, beq_eq_false_iff_ne.mpr y]; decide
    rw [concourselaw08_LexRises.l0, hrd, h3, hn, e1, e2, e3, e4]
    rw [if_pos c1, if_pos c2, if_neg c3, if_neg c4, if_pos c5, if_pos c6, if_pos c7, if_pos c8, if_neg c9]
    exact ih

theorem LexRises : concourselaw08_LexRises.Pure := by
  intro s _
  refine ⟨6000, ?_⟩
  unfold concourselaw08_LexRises.f lex_Tokens.f
  simp only [Option.bind_some]
  by_cases h : 1024 < s.size
  · have hl : lexSpec s = ([], 3, 0) := by rw [lexSpec, if_pos h]
    rw [hl]
    simp only
    rw [if_neg (by decide), if_pos (by decide), if_pos (by omega), awake_f]; rfl
  · have hs : s.size ≤ 1024 := by omega
    have hlen := lex_len s
    have hl := lex_of hs
    by_cases he : (toksOf s (s.size + 1) 0).2.1 = 0
    · rw [if_pos he] at hl
      rw [hl] at hlen
      have hlen : (toksOf s (s.size + 1) 0).1.length ≤ 1025 := hlen
      rw [hl]
      simp only
      rw [if_pos he]
      have hc := of_chain (s.size + 1) 0 0 (Nat.le_refl _) (by omega) (by omega) he
      exact rise_l hs (Nat.le_trans hlen (by decide)) _ [] 0 6000 rfl (Nat.lt_of_le_of_lt hlen (by decide)) hc.1
    · rw [if_neg he] at hl
      obtain ⟨j, hj, hlt⟩ := of_err (s.size + 1) 0 (by omega) he
      rw [hl]
      simp only
      rw [if_neg he, hj, if_pos (by omega), if_pos (by omega), awake_f]; rfl

end Go.Proofs.Ythbllahcolnjeaa.Pure
