/- The plain law of LexAgain: tokens that are joined have the same tokens, but for places, and the same text. No conditions but the law's own bound. -/
import Derived.Test.YthbllahcolnjeaaPLexAgainx4
import Derived.Test.YthbllahcolnjeaaVB
namespace Go.Proofs.Ythbllahcolnjeaa.Pure
open Go.RowKit Go.Proofs.Ythbllahcolnjeaa.PLexAgain Go.Proofs.YthbllahcolnjeaaW.PrintWords Go.Proofs.YthbllahcolnjeaaW.PrintLast Go.Proofs.YthbllahcolnjeaaW.PrintMore Go.Proofs.Ythbllahcolnjeaa.VM
set_option linter.unusedSimpArgs false
set_option linter.unusedVariables false

theorem bt_ext {s : ByteArray} {i j m : Nat} (h : i + m < j) (hj : j ≤ s.size) : bt (s.extract i j) (m : Int) = bt s ((i + m : Nat) : Int) := by
  have h1 : ((m : Nat) : Int).toNat < (s.extract i j).size := by rw [ByteArray.size_extract]; omega
  have h2 : ((i + m : Nat) : Int).toNat < s.size := by omega
  rw [bt, dif_pos h1, bt, dif_pos h2]
  simp only [ByteArray.getElem_eq_getElem_data, ByteArray.data_extract, Array.getElem_extract, Int.toNat_natCast]
theorem runTo_all {p : Int → Bool} {s : ByteArray} : ∀ (d i : Nat), s.size - i = d → ∀ m, i ≤ m → m < runTo p s i → p (bt s m) = true
  | 0, i, h, m, h1, h2 => by rw [runTo, dif_neg (by omega)] at h2; omega
  | d + 1, i, h, m, h1, h2 => by
    rw [runTo, dif_pos (by omega)] at h2
    by_cases hp : p (bt s i) = true
    · rw [if_pos hp] at h2
      by_cases he : m = i
      · rw [he]; exact hp
      · exact runTo_all d (i + 1) (by omega) m (by omega) h2
    · rw [if_neg hp] at h2; omega
theorem tok_len {s : ByteArray} : ∀ (k i : Nat) (acc : List S33), i ≤ s.size → acc.length ≤ i → (tokFrom s k i acc).1.length ≤ s.size + 1
  | 0, i, acc, hi, ha => by rw [tokFrom]; show acc.length ≤ _; omega
  | k + 1, i, acc, hi, ha => by
    rw [tokFrom]
    by_cases h1 : i < s.size
    · rw [if_pos h1]
      by_cases h2 : (oneSpec s i).1 = 0
      · have h := oneSpec_ok h1 h2
        rw [if_pos h2]
        exact tok_len k _ _ h.2.1 (by rw [List.length_append]; omega)
      · rw [if_neg h2]; exact Nat.zero_le _
    · rw [if_neg h1]; simp; omega
theorem lex_len (s : ByteArray) : (lexSpec s).1.length ≤ 1025 := by
  unfold lexSpec
  by_cases h : 1024 < s.size
  · rw [if_pos h]; exact Nat.zero_le _
  · rw [if_neg h]
    have := tok_len (s := s) (s.size + 1) 0 [] (by omega) (by simp)
    omega
theorem awake_f : concourselaw08_awake.f = some true := by decide +kernel
def toksOf (s : ByteArray) : Nat → Nat → List S33 × Int × Int
  | 0, _ => ([], 0, 0)
  | k + 1, i => if i < s.size then (if (oneSpec s i).1 = 0 then ((oneSpec s i).2.2 ++ (toksOf s k (oneSpec s i).2.1).1, (toksOf s k (oneSpec s i).2.1).2) else ([], (oneSpec s i).1, (i : Int))) else ([⟨4, ⟨#[]⟩, 0, (s.size : Int)⟩], 0, 0)
theorem tok_of (s : ByteArray) : ∀ (k i : Nat) (acc : List S33), tokFrom s k i acc = if (toksOf s k i).2.1 = 0 then (acc ++ (toksOf s k i).1, (toksOf s k i).2) else ([], (toksOf s k i).2)
  | 0, i, acc => by simp [tokFrom, toksOf]
  | k + 1, i, acc => by
    rw [tokFrom, toksOf]
    by_cases h1 : i < s.size
    · rw [if_pos h1, if_pos h1]
      by_cases h2 : (oneSpec s i).1 = 0
      · rw [if_pos h2, if_pos h2, tok_of s k]
        simp only [List.append_assoc]
      · rw [if_neg h2, if_neg h2]
        simp only
        rw [if_neg h2]
    · rw [if_neg h1, if_neg h1]; simp
theorem lex_of {s : ByteArray} (h : s.size ≤ 1024) : lexSpec s = if (toksOf s (s.size + 1) 0).2.1 = 0 then ((toksOf s (s.size + 1) 0).1, (toksOf s (s.size + 1) 0).2) else ([], (toksOf s (s.size + 1) 0).2) := by
  rw [lexSpec, if_neg (by omega), tok_of]; simp
theorem of_err {s : ByteArray} : ∀ (k i : Nat), i ≤ s.size → (toksOf s k i).2.1 ≠ 0 → ∃ j : Nat, (toksOf s k i).2.2 = (j : Int) ∧ j < s.size
  | 0, i, hi, h => by simp [toksOf] at h
  | k + 1, i, hi, h => by
    rw [toksOf] at h ⊢
    by_cases h1 : i < s.size
    · rw [if_pos h1] at h ⊢
      by_cases h2 : (oneSpec s i).1 = 0
      · rw [if_pos h2] at h ⊢
        exact of_err k _ (oneSpec_ok h1 h2).2.1 h
      · rw [if_neg h2]; exact ⟨i, rfl, h1⟩
    · rw [if_neg h1] at h; simp at h
theorem of_ok {s : ByteArray} : ∀ (k i : Nat), (toksOf s k i).2.1 = 0 → (toksOf s k i).2.2 = 0
  | 0, i, h => rfl
  | k + 1, i, h => by
    rw [toksOf] at h ⊢
    by_cases h1 : i < s.size
    · rw [if_pos h1] at h ⊢
      by_cases h2 : (oneSpec s i).1 = 0
      · rw [if_pos h2] at h ⊢
        exact of_ok k _ h
      · rw [if_neg h2] at h; exact absurd h h2
    · rw [if_neg h1]
theorem one_tok {s : ByteArray} {i : Nat} (hi : i < s.size) : (oneSpec s i).1 = 0 → (oneSpec s i).2.2 = [] ∨ ∃ kd nu, kd ≠ 4 ∧ (oneSpec s i).2.2 = [(⟨kd, s.extract i (oneSpec s i).2.1, nu, (i : Int)⟩ : S33)] := by
  unfold oneSpec
  by_cases h1 : isLet (bt s i) = true
  · simp only [if_pos h1]
    unfold wordSpec
    split
    · intro h; simp at h
    · intro _; exact .inr ⟨1, 0, by decide, rfl⟩
  · simp only [if_neg h1]
    by_cases h2 : isDig (bt s i) = true
    · simp only [if_pos h2]
      unfold numberSpec
      split
      · intro _; exact .inr ⟨2, _, by decide, rfl⟩
      · intro _; exact .inl rfl
    · simp only [if_neg h2]
      by_cases h3 : bt s i = 47
      · simp only [if_pos h3]
        split <;> exact fun _ => .inl rfl
      · simp only [if_neg h3]
        split
        · exact fun _ => .inl rfl
        · split
          · intro _; exact .inr ⟨3, 0, by decide, rfl⟩
          · exact fun _ => .inl rfl
def d3 (t : S33) : Int × ByteArray × Int := (t.f0, t.f1, t.f2)
theorem d3_at {a b : List S33} (h : a.map d3 = b.map d3) {i : Nat} (ha : i < a.length) (hb : i < b.length) : d3 (rd_T33 a (i : Int)) = d3 (rd_T33 b (i : Int)) := by
  have h1 : (a.map d3)[i]? = (b.map d3)[i]? := by rw [h]
  rw [List.getElem?_map, List.getElem?_map, List.getElem?_eq_getElem ha, List.getElem?_eq_getElem hb] at h1
  unfold rd_T33
  rw [Int.toNat_natCast, List.getD_eq_getElem?_getD, List.getD_eq_getElem?_getD, List.getElem?_eq_getElem ha, List.getElem?_eq_getElem hb]
  exact Option.some.inj h1
theorem same2_l {a b : List S33} (h : a.map d3 = b.map d3) (hz : a.length ≤ 5000) : ∀ (d i k : Nat), a.length - i = d → 1 + d ≤ k → concourseref08_Same.l0 k a b false (i : Int) = some true
  | d, i, 0, h, hk => by omega
  | d, i, k + 1, hd, hk => by
    have hl : a.length = b.length := by have := congrArg List.length h; simpa using this
    rw [concourseref08_Same.l0]
    by_cases h1 : i < a.length
    · have ih : concourseref08_Same.l0 k a b false (wrap64 ((i : Int) + 1)) = some true := by
        rw [w64 (by omega) (by omega)]
        cases d with
        | zero => omega
        | succ d => exact same2_l h hz d (i + 1) k (by omega) (by omega)
      have hd3 := d3_at h h1 (by omega)
      simp only [d3, Prod.mk.injEq] at hd3
      rw [if_pos (by omega), if_pos (by omega), if_pos (by omega), if_pos hd3.1, if_pos (by rw [hd3.2.1]), if_pos hd3.2.2, ih]
      rfl
    · rw [if_neg (by omega)]
theorem same2_f {a b : List S33} (h : a.map d3 = b.map d3) (hz : a.length ≤ 5000) {k : Nat} (hk : 5001 ≤ k) : concourseref08_Same.f k a b false = some true := by
  have hl : a.length = b.length := by have := congrArg List.length h; simpa using this
  rw [concourseref08_Same.f, if_pos (by omega)]
  exact same2_l h hz _ 0 k rfl (by omega)
theorem runTo_is {p : Int → Bool} {s : ByteArray} : ∀ (d i j : Nat), j - i = d → i ≤ j → j ≤ s.size → (∀ m, i ≤ m → m < j → p (bt s m) = true) → (j = s.size ∨ p (bt s j) = false) → runTo p s i = j
  | 0, i, j, h, hij, hj, ha, he => by
    have : i = j := by omega
    subst this
    rw [runTo]
    rcases he with he | he
    · rw [dif_neg (by omega)]
    · split
      · rw [he]; rfl
      · rfl
  | d + 1, i, j, h, hij, hj, ha, he => by
    rw [runTo, dif_pos (by omega), ha i (Nat.le_refl _) (by omega), if_pos rfl]
    exact runTo_is d (i + 1) j (by omega) (by omega) hj (fun m h1 h2 => ha m (by omega) h2) he
theorem bytes_same {s s' : ByteArray} {i j p : Nat} (hj : j ≤ s.size) (hij : i ≤ j) (hx : s'.extract p (p + (j - i)) = s.extract i j) (hp : p + (j - i) ≤ s'.size) (m : Nat) (hm : m < j - i) : bt s' ((p + m : Nat) : Int) = bt s ((i + m : Nat) : Int) := by
  rw [← bt_ext (s := s') (i := p) (j := p + (j - i)) (m := m) (by omega) hp, hx, bt_ext (by omega) hj]
theorem runTo_again {q : Int → Bool} {s s' : ByteArray} {i p : Nat} (hi : i < s.size) (hq : q (bt s i) = true) (h32 : q 32 = false) (hx : s'.extract p (p + (runTo q s i - i)) = s.extract i (runTo q s i)) (hp : p + (runTo q s i - i) < s'.size) (hb : bt s' ((p + (runTo q s i - i) : Nat) : Int) = 32) :
    runTo q s' p = p + (runTo q s i - i) := by
  have hj := runTo_step hi hq
  refine runTo_is (runTo q s i - i) p _ (by omega) (by omega) (by omega) ?_ (.inr (by rw [hb]; exact h32))
  intro m h1 h2
  have h := bytes_same hj.2 (by omega) hx (by omega) (m - p) (by omega)
  rw [show p + (m - p) = m by omega] at h
  rw [h]
  exact runTo_all _ i rfl _ (by omega) (by omega)
theorem one_again {s s' : ByteArray} {i p : Nat} {t : S33} (hi : i < s.size) (h0 : (oneSpec s i).1 = 0) (ht : (oneSpec s i).2.2 = [t]) (hx : s'.extract p (p + t.f1.size) = t.f1) (hp : p + t.f1.size < s'.size) (hb : bt s' ((p + t.f1.size : Nat) : Int) = 32) :
    1 ≤ t.f1.size ∧ t.f1.size ≤ s.size ∧ oneSpec s' p = (0, p + t.f1.size, [(⟨t.f0, t.f1, t.f2, (p : Int)⟩ : S33)]) := by
  by_cases h1 : isLet (bt s i) = true
  · have ho : oneSpec s i = wordSpec s i := by rw [oneSpec, if_pos h1]
    have hj := runTo_step hi (inn_of_let h1)
    rw [ho, wordSpec] at h0 ht
    by_cases h2 : 16 < (s.extract i (runTo isInn s i)).size
    · rw [if_pos h2] at h0; simp at h0
    · rw [if_neg h2] at ht
      have := (List.cons.inj ht).1
      subst this
      have hz : (s.extract i (runTo isInn s i)).size = runTo isInn s i - i := by rw [ByteArray.size_extract]; omega
      simp only at hx hp hb ⊢
      rw [hz] at hx hp hb h2
      have hr := runTo_again hi (inn_of_let h1) rfl hx hp hb
      have hb0 := bytes_same hj.2 (by omega) hx (by omega) 0 (by omega)
      rw [Nat.add_zero, Nat.add_zero] at hb0
      rw [hz]
      refine ⟨by omega, by omega, ?_⟩
      rw [oneSpec, hb0, if_pos h1, wordSpec, hr, hx, if_neg (by rw [hz]; exact h2)]
  · by_cases h2 : isDig (bt s i) = true
    · have ho : oneSpec s i = numberSpec s i := by rw [oneSpec, if_neg h1, if_pos h2]
      have hj := runTo_step hi h2
      rw [ho, numberSpec] at h0 ht
      by_cases h3 : (numSpec (s.extract i (runTo isDig s i))).1 = 0
      · rw [if_pos h3] at ht
        have := (List.cons.inj ht).1
        subst this
        have hz : (s.extract i (runTo isDig s i)).size = runTo isDig s i - i := by rw [ByteArray.size_extract]; omega
        simp only at hx hp hb ⊢
        rw [hz] at hx hp hb
        have hr := runTo_again hi h2 rfl hx hp hb
        have hb0 := bytes_same hj.2 (by omega) hx (by omega) 0 (by omega)
        rw [Nat.add_zero, Nat.add_zero] at hb0
        rw [hz]
        refine ⟨by omega, by omega, ?_⟩
        rw [oneSpec, hb0, if_neg h1, if_pos h2, numberSpec, hr, hx, if_pos h3]
      · rw [if_neg h3] at h0; exact absurd h0 h3
    · by_cases h3 : bt s i = 47
      · rw [oneSpec, if_neg h1, if_neg h2, if_pos h3] at ht
        split at ht <;> simp at ht
      · by_cases h4 : bt s i = 32 ∨ bt s i = 9 ∨ bt s i = 10 ∨ bt s i = 13
        · rw [oneSpec, if_neg h1, if_neg h2, if_neg h3, if_pos h4] at ht; simp at ht
        · by_cases h5 : isSign (bt s i) = true
          · rw [oneSpec, if_neg h1, if_neg h2, if_neg h3, if_neg h4, if_pos h5] at ht
            have := (List.cons.inj ht).1
            subst this
            have hz : (s.extract i (i + 1)).size = i + 1 - i := by rw [ByteArray.size_extract]; omega
            simp only at hx hp hb ⊢
            rw [hz] at hx hp hb
            have hb0 := bytes_same (j := i + 1) (by omega) (by omega) hx (by omega) 0 (by omega)
            rw [Nat.add_zero, Nat.add_zero] at hb0
            rw [hz]
            refine ⟨by omega, by omega, ?_⟩
            rw [oneSpec, hb0, if_neg h1, if_neg h2, if_neg h3, if_neg h4, if_pos h5]
            rw [show i + 1 - i = 1 by omega] at hx ⊢
            rw [hx]
          · rw [oneSpec, if_neg h1, if_neg h2, if_neg h3, if_neg h4, if_neg h5] at h0; simp at h0
def Good (s : ByteArray) (t : S33) : Prop := ∃ i, i < s.size ∧ (oneSpec s i).1 = 0 ∧ (oneSpec s i).2.2 = [t]
theorem of_split {s : ByteArray} : ∀ (k i : Nat), i ≤ s.size → s.size < i + k → (toksOf s k i).2.1 = 0 → ∃ T, (toksOf s k i).1 = T ++ [(⟨4, ⟨#[]⟩, 0, (s.size : Int)⟩ : S33)] ∧ ∀ t, t ∈ T → Good s t
  | 0, i, hi, hk, h => by omega
  | k + 1, i, hi, hk, h => by
    rw [toksOf] at h ⊢
    by_cases h1 : i < s.size
    · rw [if_pos h1] at h ⊢
      by_cases h2 : (oneSpec s i).1 = 0
      · rw [if_pos h2] at h ⊢
        obtain ⟨o1, o2, o3⟩ := oneSpec_ok h1 h2
        obtain ⟨T, hT, hg⟩ := of_split k _ o2 (by omega) h
        rcases one_tok h1 h2 with he | ⟨kd, nu, hk4, he⟩
        · refine ⟨T, ?_, hg⟩
          simp only
          rw [he, hT]; rfl
        · refine ⟨⟨kd, s.extract i (oneSpec s i).2.1, nu, (i : Int)⟩ :: T, ?_, ?_⟩
          · simp only
            rw [he, hT]; rfl
          · intro t ht
            rcases List.mem_cons.mp ht with rfl | ht
            · exact ⟨i, h1, h2, he⟩
            · exact hg t ht
      · rw [if_neg h2] at h; exact absurd h h2
    · rw [if_neg h1]; exact ⟨[], rfl, fun t ht => by simp at ht⟩
def JL (xs : List ByteArray) : List UInt8 := (xs.map fun x => x.data.toList ++ [32]).flatten
theorem join_tail (r : List (List UInt8)) : Lib.joinTail [32] (r ++ [[]]) = [32] ++ (r.map (· ++ [32])).flatten := by
  induction r with
  | nil => rfl
  | cons y r ih =>
    have e1 : Lib.joinTail [32] ((y :: r) ++ [[]]) = ([32] ++ y) ++ Lib.joinTail [32] (r ++ [[]]) := by unfold Lib.joinTail; simp
    rw [e1, ih]; simp
theorem joined_end (xs : List ByteArray) : joined (xs ++ [⟨#[]⟩]) = JL xs := by
  unfold joined JL
  cases xs with
  | nil => rfl
  | cons x r =>
    have e : ((x :: r) ++ [(⟨#[]⟩ : ByteArray)]).map (·.data.toList) = x.data.toList :: (r.map (·.data.toList) ++ [[]]) := by simp
    rw [e, Lib.join_cons, join_tail]
    simp [List.map_map, Function.comp_def]
theorem good_size {s : ByteArray} {t : S33} (h : Good s t) : t.f1.size ≤ s.size := by
  obtain ⟨i, hi, h0, ht⟩ := h
  rcases one_tok hi h0 with he | ⟨kd, nu, -, he⟩
  · rw [he] at ht; simp at ht
  · rw [he] at ht
    have := (List.cons.inj ht).1
    subst this
    simp only
    rw [ByteArray.size_extract]; omega
theorem JL_len {s : ByteArray} (hs : s.size ≤ 1024) : ∀ T : List S33, (∀ t, t ∈ T → Good s t) → (JL (textsOf T)).length ≤ T.length * 1025
  | [], _ => by simp [JL, textsOf]
  | t :: r, h => by
    have h1 := good_size (h t (List.mem_cons_self ..))
    have ih := JL_len hs r (fun x hx => h x (List.mem_cons_of_mem _ hx))
    have e : JL (textsOf (t :: r)) = (t.f1.data.toList ++ [32]) ++ JL (textsOf r) := by simp [JL, textsOf]
    rw [e]
    simp only [List.length_append, List.length_cons, List.length_nil, data_length]
    omega
theorem toks_again {s J : ByteArray} : ∀ (T : List S33) (pre : List UInt8) (k : Nat), (∀ t, t ∈ T → Good s t) → J.data.toList = pre ++ JL (textsOf T) → J.size < pre.length + k →
    ∃ T', toksOf J k pre.length = (T' ++ [(⟨4, ⟨#[]⟩, 0, (J.size : Int)⟩ : S33)], 0, 0) ∧ T'.map d3 = T.map d3 := by
  intro T
  induction T with
  | nil =>
    intro pre k hg hJ hk
    have hz : J.size = pre.length := by rw [← data_length, hJ]; simp [JL, textsOf]
    obtain ⟨k, rfl⟩ : ∃ j, k = j + 1 := ⟨k - 1, by omega⟩
    refine ⟨[], ?_, rfl⟩
    rw [toksOf, if_neg (by omega)]; rfl
  | cons t r ih =>
    intro pre k hg hJ hk
    obtain ⟨i, hi, h0, ht⟩ := hg t (List.mem_cons_self ..)
    have e : JL (textsOf (t :: r)) = t.f1.data.toList ++ (32 :: JL (textsOf r)) := by simp [JL, textsOf]
    rw [e] at hJ
    have hn : t.f1.data.toList.length = t.f1.size := data_length _
    have hz : J.size = pre.length + (t.f1.size + (1 + (JL (textsOf r)).length)) := by
      rw [← data_length, hJ, List.length_append, List.length_append, hn, List.length_cons]; omega
    have hx : J.extract pre.length (pre.length + t.f1.size) = t.f1 := by
      apply ba_ext
      rw [ByteArray.data_extract, Array.toList_extract, hJ]
      show List.take (pre.length + t.f1.size - pre.length) (List.drop pre.length (pre ++ (t.f1.data.toList ++ (32 :: JL (textsOf r))))) = _
      rw [List.drop_left, Nat.add_sub_cancel_left, ← hn, List.take_left]
    have hp : pre.length + t.f1.size < J.size := by omega
    have hb : bt J ((pre.length + t.f1.size : Nat) : Int) = 32 := by
      rw [bt, dif_pos (by rw [Int.toNat_natCast]; exact hp)]
      have h1 : J.data.toList[pre.length + t.f1.size]? = some 32 := by
        rw [hJ, List.getElem?_append_right (by omega), List.getElem?_append_right (by rw [hn]; omega)]
        rw [show pre.length + t.f1.size - pre.length - t.f1.data.toList.length = 0 by rw [hn]; omega]; rfl
      rw [Array.getElem?_toList] at h1
      obtain ⟨hlt, hv⟩ := Array.getElem?_eq_some_iff.mp h1
      simp only [ByteArray.getElem_eq_getElem_data, Int.toNat_natCast]
      rw [hv]; rfl
    obtain ⟨o1, o2, o3⟩ := one_again hi h0 ht hx hp hb
    have ob : oneSpec J (pre.length + t.f1.size) = (0, pre.length + t.f1.size + 1, []) := by
      rw [oneSpec, hb, if_neg (by decide), if_neg (by decide), if_neg (by decide), if_pos (.inl rfl)]
    obtain ⟨k, rfl⟩ : ∃ j, k = j + 2 := ⟨k - 2, by omega⟩
    have hpl : (pre ++ (t.f1.data.toList ++ [32])).length = pre.length + t.f1.size + 1 := by
      rw [List.length_append, List.length_append, hn]; simp; omega
    obtain ⟨T', h1, h2⟩ := ih (pre ++ (t.f1.data.toList ++ [32])) k (fun x hx => hg x (List.mem_cons_of_mem _ hx)) (by rw [hJ]; simp) (by rw [hpl]; omega)
    rw [hpl] at h1
    refine ⟨(⟨t.f0, t.f1, t.f2, (pre.length : Int)⟩ : S33) :: T', ?_, by rw [List.map_cons, List.map_cons, h2]; rfl⟩
    rw [toksOf, if_pos (by omega), o3, if_pos rfl, toksOf, if_pos hp, ob, if_pos rfl, h1]
    rfl
theorem texts_d3 {a b : List S33} (h : a.map d3 = b.map d3) : textsOf a = textsOf b := by
  have : (a.map d3).map (fun x => x.2.1) = (b.map d3).map (fun x => x.2.1) := by rw [h]
  rw [List.map_map, List.map_map] at this
  exact this

theorem LexAgain : concourselaw08_LexAgain.Pure := by
  intro s _
  refine ⟨6000, ?_⟩
  unfold concourselaw08_LexAgain.f lex_Tokens.f
  simp only [Option.bind_some]
  by_cases h : 1024 < s.size
  · have hl : lexSpec s = ([], 3, 0) := by rw [lexSpec, if_pos h]
    rw [hl]
    simp only
    rw [if_neg (by decide), if_pos (by decide), awake_f]; rfl
  · have hs : s.size ≤ 1024 := by omega
    have hlen := lex_len s
    have hl := lex_of hs
    by_cases he : (toksOf s (s.size + 1) 0).2.1 = 0
    · rw [if_pos he] at hl
      obtain ⟨T, hT, hg⟩ := of_split (s.size + 1) 0 (by omega) (by omega) he
      have hok := of_ok _ _ he
      have hL : lexSpec s = (T ++ [(⟨4, ⟨#[]⟩, 0, (s.size : Int)⟩ : S33)], 0, 0) := by
        rw [hl, hT]
        exact Prod.ext rfl (Prod.ext he hok)
      rw [hL] at hlen
      have hlen : T.length + 1 ≤ 1025 := by simpa using hlen
      have hJ : joined (textsOf (T ++ [(⟨4, ⟨#[]⟩, 0, (s.size : Int)⟩ : S33)])) = JL (textsOf T) := by
        rw [show textsOf (T ++ [(⟨4, ⟨#[]⟩, 0, (s.size : Int)⟩ : S33)]) = textsOf T ++ [⟨#[]⟩] by simp [textsOf]]
        exact joined_end _
      have hJl := JL_len hs T hg
      have hjoin : ∀ b : List S33, b.map d3 = (T ++ [(⟨4, ⟨#[]⟩, 0, (s.size : Int)⟩ : S33)]).map d3 → lex_Join.f b = some ⟨(JL (textsOf T)).toArray⟩ := fun b hb => by
        have hlb : b.length = T.length + 1 := by have := congrArg List.length hb; simpa using this
        unfold lex_Join.f
        rw [texts_d3 hb, hJ, if_pos ⟨by omega, by omega⟩]
      rw [hL]
      simp only
      rw [if_pos trivial, hjoin _ rfl]
      simp only [Option.bind_some]
      obtain ⟨J, hJdef⟩ : ∃ J : ByteArray, J = ⟨(JL (textsOf T)).toArray⟩ := ⟨_, rfl⟩
      have hJlist : J.data.toList = JL (textsOf T) := by rw [hJdef]
      rw [← hJdef]
      by_cases hz : 1024 < J.size
      · have hl2 : lexSpec J = ([], 3, 0) := by rw [lexSpec, if_pos hz]
        rw [hl2]
        simp only
        rw [if_pos (by omega), if_pos trivial, awake_f]; rfl
      · obtain ⟨T', h1, h2⟩ := toks_again (s := s) (J := J) T [] (J.size + 1) hg hJlist (by simp)
        have h1 : toksOf J (J.size + 1) 0 = (T' ++ [(⟨4, ⟨#[]⟩, 0, (J.size : Int)⟩ : S33)], 0, 0) := h1
        have hl2 : lexSpec J = (T' ++ [(⟨4, ⟨#[]⟩, 0, (J.size : Int)⟩ : S33)], 0, 0) := by
          rw [lex_of (by omega), h1]; rfl
        have hd : (T' ++ [(⟨4, ⟨#[]⟩, 0, (J.size : Int)⟩ : S33)]).map d3 = (T ++ [(⟨4, ⟨#[]⟩, 0, (s.size : Int)⟩ : S33)]).map d3 := by
          rw [List.map_append, List.map_append, h2]; rfl
        rw [hl2]
        simp only
        rw [if_neg (by omega), if_pos (by decide), same2_f hd.symm (by simp; omega) (by omega)]
        simp only [Option.bind_some]
        rw [if_pos trivial, hjoin _ hd]
        simp only [Option.bind_some]
        rw [← hJdef, if_pos rfl, awake_f]; rfl
    · rw [if_neg he] at hl
      rw [hl]
      simp only
      rw [if_neg he, if_pos (by decide), awake_f]; rfl

end Go.Proofs.Ythbllahcolnjeaa.Pure
