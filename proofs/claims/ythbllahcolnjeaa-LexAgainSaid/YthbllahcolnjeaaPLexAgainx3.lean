-- written by a program of this claim's session, a turned copy of the print (it also takes a label): Lean checks it
import Derived.Test.YthbllahcolnjeaaPLexAgainx0
import Derived.Test.YthbllahcolnjeaaPLexAgainx2
import Derived.Test.YthbllahcolnjeaaBld
namespace Go.Proofs.Ythbllahcolnjeaa.PLexAgain
open Go.RowKit Go.Proofs.YthbllahcolnjeaaW.PrintWords Go.Proofs.YthbllahcolnjeaaW.PrintLast Go.Proofs.YthbllahcolnjeaaW.PrintMore
attribute [local go_sem] max2_int min2_int max_two min_two max_three min_three max_four min_four   -- for this text's walks alone
set_option linter.unusedVariables false
set_option linter.unusedSimpArgs false

/-! ### lex_Tokens: function 6 -/
-- Bld. : the walk by hand

def isLet (c : Int) : Bool := (decide (97 ≤ c) && decide (c ≤ 122)) || (decide (65 ≤ c) && decide (c ≤ 90))
def isDig (c : Int) : Bool := decide (48 ≤ c) && decide (c ≤ 57)
def isInn (c : Int) : Bool := isLet c || isDig c || c == 95
def isOut (c : Int) : Bool := c != 10
theorem letter_eq (c : Int) : lex_letter.f c = some (isLet c) := by
  unfold lex_letter.f isLet
  by_cases h1 : 97 ≤ c <;> by_cases h2 : c ≤ 122 <;> by_cases h3 : 65 ≤ c <;> by_cases h4 : c ≤ 90 <;> simp [h1, h2, h3, h4] <;> omega
theorem digit_eq (c : Int) : lex_digit.f c = some (isDig c) := by
  unfold lex_digit.f isDig
  by_cases h1 : 48 ≤ c <;> by_cases h2 : c ≤ 57 <;> simp [h1, h2]
theorem inner_eq (c : Int) : lex_inner.f c = some (isInn c) := by
  unfold lex_inner.f isInn
  rw [letter_eq, digit_eq]
  cases isLet c <;> cases isDig c <;> simp
theorem letter_calls (c : Int) (w : World) : Calls Try.prog 15 #[.int .u8 c] w fun e w' => e = .returned (.bool (isLet c)) ∧ Drawn0 w w' := lex_letter.calls c _ w (letter_eq c)
theorem digit_calls (c : Int) (w : World) : Calls Try.prog 17 #[.int .u8 c] w fun e w' => e = .returned (.bool (isDig c)) ∧ Drawn0 w w' := lex_digit.calls c _ w (digit_eq c)
theorem inner_calls (c : Int) (w : World) : Calls Try.prog 28 #[.int .u8 c] w fun e w' => e = .returned (.bool (isInn c)) ∧ Drawn0 w w' := lex_inner.calls c _ w (inner_eq c)
set_option maxHeartbeats 8000000 in
theorem out_calls (c : Int) (w : World) : Calls Try.prog 30 #[.int .u8 c] w fun e w' => e = .returned (.bool (isOut c)) ∧ Drawn0 w w' := by
  go_enter Try.func30, Try.ntmps30
  go_wp2
  go_ret
  exact ⟨rfl, by repeat (first | exact Drawn0.refl _ | apply Drawn0.step)⟩

def runTo (p : Int → Bool) (s : ByteArray) (i : Nat) : Nat := if h : i < s.size then (if p (bt s i) then runTo p s (i + 1) else i) else i
termination_by s.size - i
theorem runTo_le (p : Int → Bool) (s : ByteArray) : ∀ (d i : Nat), s.size - i = d → i ≤ s.size → i ≤ runTo p s i ∧ runTo p s i ≤ s.size
  | 0, i, h, hi => by rw [runTo, dif_neg (by omega)]; omega
  | d + 1, i, h, hi => by
    rw [runTo, dif_pos (by omega)]
    split
    · have := runTo_le p s d (i + 1) (by omega) (by omega); omega
    · omega

def LexAt (w0 : World) (g : Nat) (s : ByteArray) (i : Nat) (toks : List S33) (w : World) : Prop :=
  ∃ v, w.heap[g]? = some (.cells #[.string s, .int .i64 (i : Int), v] 36 (0, 0)) ∧ Kd.R k33 33 w w0.heap.size (fun _ => True) v toks ∧ Below w0.heap.size w0 w ∧ w0.heap.size ≤ g

theorem LexAt.drawn {w0 : World} {g : Nat} {s : ByteArray} {i : Nat} {toks : List S33} {w : World} (h : LexAt w0 g s i toks w) (n : Nat) : LexAt w0 g s i toks (w.drewN n) := by
  obtain ⟨v, hb, hR, hB, hg⟩ := h
  exact ⟨v, hb, Kd.R_drewN hR n, pw_below_drewN hB n, hg⟩
theorem LexAt.drawn0 {w0 : World} {g : Nat} {s : ByteArray} {i : Nat} {toks : List S33} {w w' : World} (h : LexAt w0 g s i toks w) (hd : Drawn0 w w') : LexAt w0 g s i toks w' := by
  obtain ⟨n, rfl⟩ := hd.out
  exact h.drawn n
theorem LexAt.move {w0 : World} {g : Nat} {s : ByteArray} {i : Nat} {toks : List S33} {w : World} (h : LexAt w0 g s i toks w) (j : Nat) : LexAt w0 g s j toks (w.setCell ⟨g, 1, none⟩ (.int .i64 (j : Int))) := by
  obtain ⟨v, hb, hR, hB, hg⟩ := h
  exact ⟨v, blk_set hb 1 _, Kd.R_set hR hb (by decide) 1 _, below_set hB hg, hg⟩

set_option maxHeartbeats 8000000 in
set_option maxRecDepth 100000 in
theorem while28 {w0 : World} {g : Nat} {s : ByteArray} {toks : List S33} (i : Nat) (w : World) (hi : i ≤ s.size) (hs : s.size ≤ 1024) (hw : LexAt w0 g s i toks w) :
    Calls Try.prog 27 #[.pointer (some ⟨g, 0, none⟩), .func (.func 28) #[] #[]] w fun e w' => e = .returned (.string (s.extract i (runTo isInn s i))) ∧ LexAt w0 g s (runTo isInn s i) toks w' := by
  have hu36 := Try.underlying36
  have HW := Aside0.mk hw
  obtain ⟨v, hb, -, -, -⟩ := hw
  have hc0 : w.cell? ⟨g, 0, none⟩ = some (.string s) := (blk_cell hb 0).trans rfl
  have hc1 : w.cell? ⟨g, 1, none⟩ = some (.int .i64 (i : Int)) := (blk_cell hb 1).trans rfl
  have hc2 : w.cell? ⟨g, 2, none⟩ = some v := (blk_cell hb 2).trans rfl
  go_enter Try.func27, Try.ntmps27
  go_wp2
  clear hc0 hc1 hc2 hb
  go_loopg [] (s.size - i) (fun kq w' => ∃ j : Nat, Aside0 (j + kq = s.size ∧ i ≤ j ∧ runTo isInn s i = runTo isInn s j) ∧ Aside0 (LexAt w0 g s j toks w'))
  case atStart => exact ⟨i, ⟨by omega, Nat.le_refl _, rfl⟩, ⟨by first | exact HW.out | exact HW.out.drawn _⟩⟩
  case round =>
    clear HW
    obtain ⟨j, ⟨hj, hij, hrun⟩, HW⟩ := hrel
    obtain ⟨v1, hb, -, -, -⟩ := HW.out
    have hc0 : wr.cell? ⟨g, 0, none⟩ = some (.string s) := (blk_cell hb 0).trans rfl
    have hc1 : wr.cell? ⟨g, 1, none⟩ = some (.int .i64 (j : Int)) := (blk_cell hb 1).trans rfl
    have hf1 := blk_frozen hb 1
    have hw1 : wrap64 ((j : Int) + 1) = ((j + 1 : Nat) : Int) := by simp [wrap64]; omega
    by_cases c : j < s.size
    · have cb : decide ((j : Int) < (s.size : Int)) = true := decide_eq_true (by omega)
      have s1 : (0 ≤ (i : Int)) = True := eq_true (by omega)
      have s2 : ((i : Int) ≤ (j : Int)) = True := eq_true (by omega)
      have s3 : ((j : Int) ≤ (s.size : Int)) = True := eq_true (by omega)
      have hx0 : ∀ h : (j : Int).toNat < s.size, ((s[(j : Int).toNat]'h).toNat : Int) = bt s j := bt_at s j
      have hx1 : ∀ h : j < s.size, ((s[j]'h).toNat : Int) = bt s j := bt_at s j
      have p8 : (0 ≤ (j : Int)) = True := eq_true (by omega)
      have q8 : ((j : Int) < (s.size : Int)) = True := eq_true (by omega)
      have q9 : (j < s.size) = True := eq_true c
      have hst : runTo isInn s j = if isInn (bt s j) then runTo isInn s (j + 1) else j := by rw [runTo, dif_pos c]
      cases hp : isInn (bt s j)
      · have hr : runTo isInn s i = j := by rw [hrun, hst, hp]; simp
        have HR := Aside0.mk hr
        have hcall : ∀ W : World, Calls Try.prog 28 #[.int .u8 (bt s j)] W fun e w' => e = .returned (.bool false) ∧ ∃ m, w' = W.drewN m := fun W => by
          have z := inner_calls (bt s j) W
          rw [hp] at z
          exact z.mono (fun e w' ⟨he, hd⟩ => ⟨he, hd.out⟩)
        clear hst hrun hr
        go_wp2
        go_quiet ((go_at_call 28; exact Calls.quiet_of (hcall _)))
        go_wp2
        go_quiet (fail)
        go_wp2
        go_ret
        exact ⟨by rw [HR.out]; simp, by rw [HR.out]; repeat (first | exact HW.out | apply LexAt.drawn)⟩
      · have hr : runTo isInn s i = runTo isInn s (j + 1) := by rw [hrun, hst, hp]; simp
        have HR := Aside0.mk hr
        have hcall : ∀ W : World, Calls Try.prog 28 #[.int .u8 (bt s j)] W fun e w' => e = .returned (.bool true) ∧ ∃ m, w' = W.drewN m := fun W => by
          have z := inner_calls (bt s j) W
          rw [hp] at z
          exact z.mono (fun e w' ⟨he, hd⟩ => ⟨he, hd.out⟩)
        clear hst hrun hr
        go_wp2
        go_quiet ((go_at_call 28; exact Calls.quiet_of (hcall _)))
        go_wp2
        go_roundg (gk - 1)
        case measure => omega
        case rel => exact ⟨j + 1, ⟨by omega, by omega, HR.out⟩, ⟨LexAt.move (by repeat (first | exact HW.out | apply LexAt.drawn)) (j + 1)⟩⟩
    · have cb : decide ((j : Int) < (s.size : Int)) = false := decide_eq_false (by omega)
      have hr : runTo isInn s i = j := by rw [hrun, runTo, dif_neg c]
      have HR := Aside0.mk hr
      clear hrun hr
      have s1 : (0 ≤ (i : Int)) = True := eq_true (by omega)
      have s2 : ((i : Int) ≤ (j : Int)) = True := eq_true (by omega)
      have s3 : ((j : Int) ≤ (s.size : Int)) = True := eq_true (by omega)
      go_wp2
      go_quiet (fail)
      go_wp2
      go_quiet (fail)
      go_wp2
      go_ret
      exact ⟨by rw [HR.out]; simp, by rw [HR.out]; repeat (first | exact HW.out | apply LexAt.drawn)⟩

set_option maxHeartbeats 8000000 in
set_option maxRecDepth 100000 in
theorem while17 {w0 : World} {g : Nat} {s : ByteArray} {toks : List S33} (i : Nat) (w : World) (hi : i ≤ s.size) (hs : s.size ≤ 1024) (hw : LexAt w0 g s i toks w) :
    Calls Try.prog 27 #[.pointer (some ⟨g, 0, none⟩), .func (.func 17) #[] #[]] w fun e w' => e = .returned (.string (s.extract i (runTo isDig s i))) ∧ LexAt w0 g s (runTo isDig s i) toks w' := by
  have hu36 := Try.underlying36
  have HW := Aside0.mk hw
  obtain ⟨v, hb, -, -, -⟩ := hw
  have hc0 : w.cell? ⟨g, 0, none⟩ = some (.string s) := (blk_cell hb 0).trans rfl
  have hc1 : w.cell? ⟨g, 1, none⟩ = some (.int .i64 (i : Int)) := (blk_cell hb 1).trans rfl
  have hc2 : w.cell? ⟨g, 2, none⟩ = some v := (blk_cell hb 2).trans rfl
  go_enter Try.func27, Try.ntmps27
  go_wp2
  clear hc0 hc1 hc2 hb
  go_loopg [] (s.size - i) (fun kq w' => ∃ j : Nat, Aside0 (j + kq = s.size ∧ i ≤ j ∧ runTo isDig s i = runTo isDig s j) ∧ Aside0 (LexAt w0 g s j toks w'))
  case atStart => exact ⟨i, ⟨by omega, Nat.le_refl _, rfl⟩, ⟨by first | exact HW.out | exact HW.out.drawn _⟩⟩
  case round =>
    clear HW
    obtain ⟨j, ⟨hj, hij, hrun⟩, HW⟩ := hrel
    obtain ⟨v1, hb, -, -, -⟩ := HW.out
    have hc0 : wr.cell? ⟨g, 0, none⟩ = some (.string s) := (blk_cell hb 0).trans rfl
    have hc1 : wr.cell? ⟨g, 1, none⟩ = some (.int .i64 (j : Int)) := (blk_cell hb 1).trans rfl
    have hf1 := blk_frozen hb 1
    have hw1 : wrap64 ((j : Int) + 1) = ((j + 1 : Nat) : Int) := by simp [wrap64]; omega
    by_cases c : j < s.size
    · have cb : decide ((j : Int) < (s.size : Int)) = true := decide_eq_true (by omega)
      have s1 : (0 ≤ (i : Int)) = True := eq_true (by omega)
      have s2 : ((i : Int) ≤ (j : Int)) = True := eq_true (by omega)
      have s3 : ((j : Int) ≤ (s.size : Int)) = True := eq_true (by omega)
      have hx0 : ∀ h : (j : Int).toNat < s.size, ((s[(j : Int).toNat]'h).toNat : Int) = bt s j := bt_at s j
      have hx1 : ∀ h : j < s.size, ((s[j]'h).toNat : Int) = bt s j := bt_at s j
      have p8 : (0 ≤ (j : Int)) = True := eq_true (by omega)
      have q8 : ((j : Int) < (s.size : Int)) = True := eq_true (by omega)
      have q9 : (j < s.size) = True := eq_true c
      have hst : runTo isDig s j = if isDig (bt s j) then runTo isDig s (j + 1) else j := by rw [runTo, dif_pos c]
      cases hp : isDig (bt s j)
      · have hr : runTo isDig s i = j := by rw [hrun, hst, hp]; simp
        have HR := Aside0.mk hr
        have hcall : ∀ W : World, Calls Try.prog 17 #[.int .u8 (bt s j)] W fun e w' => e = .returned (.bool false) ∧ ∃ m, w' = W.drewN m := fun W => by
          have z := digit_calls (bt s j) W
          rw [hp] at z
          exact z.mono (fun e w' ⟨he, hd⟩ => ⟨he, hd.out⟩)
        clear hst hrun hr
        go_wp2
        go_quiet ((go_at_call 17; exact Calls.quiet_of (hcall _)))
        go_wp2
        go_quiet (fail)
        go_wp2
        go_ret
        exact ⟨by rw [HR.out]; simp, by rw [HR.out]; repeat (first | exact HW.out | apply LexAt.drawn)⟩
      · have hr : runTo isDig s i = runTo isDig s (j + 1) := by rw [hrun, hst, hp]; simp
        have HR := Aside0.mk hr
        have hcall : ∀ W : World, Calls Try.prog 17 #[.int .u8 (bt s j)] W fun e w' => e = .returned (.bool true) ∧ ∃ m, w' = W.drewN m := fun W => by
          have z := digit_calls (bt s j) W
          rw [hp] at z
          exact z.mono (fun e w' ⟨he, hd⟩ => ⟨he, hd.out⟩)
        clear hst hrun hr
        go_wp2
        go_quiet ((go_at_call 17; exact Calls.quiet_of (hcall _)))
        go_wp2
        go_roundg (gk - 1)
        case measure => omega
        case rel => exact ⟨j + 1, ⟨by omega, by omega, HR.out⟩, ⟨LexAt.move (by repeat (first | exact HW.out | apply LexAt.drawn)) (j + 1)⟩⟩
    · have cb : decide ((j : Int) < (s.size : Int)) = false := decide_eq_false (by omega)
      have hr : runTo isDig s i = j := by rw [hrun, runTo, dif_neg c]
      have HR := Aside0.mk hr
      clear hrun hr
      have s1 : (0 ≤ (i : Int)) = True := eq_true (by omega)
      have s2 : ((i : Int) ≤ (j : Int)) = True := eq_true (by omega)
      have s3 : ((j : Int) ≤ (s.size : Int)) = True := eq_true (by omega)
      go_wp2
      go_quiet (fail)
      go_wp2
      go_quiet (fail)
      go_wp2
      go_ret
      exact ⟨by rw [HR.out]; simp, by rw [HR.out]; repeat (first | exact HW.out | apply LexAt.drawn)⟩

set_option maxHeartbeats 8000000 in
set_option maxRecDepth 100000 in
theorem while30 {w0 : World} {g : Nat} {s : ByteArray} {toks : List S33} (i : Nat) (w : World) (hi : i ≤ s.size) (hs : s.size ≤ 1024) (hw : LexAt w0 g s i toks w) :
    Calls Try.prog 27 #[.pointer (some ⟨g, 0, none⟩), .func (.func 30) #[] #[]] w fun e w' => e = .returned (.string (s.extract i (runTo isOut s i))) ∧ LexAt w0 g s (runTo isOut s i) toks w' := by
  have hu36 := Try.underlying36
  have HW := Aside0.mk hw
  obtain ⟨v, hb, -, -, -⟩ := hw
  have hc0 : w.cell? ⟨g, 0, none⟩ = some (.string s) := (blk_cell hb 0).trans rfl
  have hc1 : w.cell? ⟨g, 1, none⟩ = some (.int .i64 (i : Int)) := (blk_cell hb 1).trans rfl
  have hc2 : w.cell? ⟨g, 2, none⟩ = some v := (blk_cell hb 2).trans rfl
  go_enter Try.func27, Try.ntmps27
  go_wp2
  clear hc0 hc1 hc2 hb
  go_loopg [] (s.size - i) (fun kq w' => ∃ j : Nat, Aside0 (j + kq = s.size ∧ i ≤ j ∧ runTo isOut s i = runTo isOut s j) ∧ Aside0 (LexAt w0 g s j toks w'))
  case atStart => exact ⟨i, ⟨by omega, Nat.le_refl _, rfl⟩, ⟨by first | exact HW.out | exact HW.out.drawn _⟩⟩
  case round =>
    clear HW
    obtain ⟨j, ⟨hj, hij, hrun⟩, HW⟩ := hrel
    obtain ⟨v1, hb, -, -, -⟩ := HW.out
    have hc0 : wr.cell? ⟨g, 0, none⟩ = some (.string s) := (blk_cell hb 0).trans rfl
    have hc1 : wr.cell? ⟨g, 1, none⟩ = some (.int .i64 (j : Int)) := (blk_cell hb 1).trans rfl
    have hf1 := blk_frozen hb 1
    have hw1 : wrap64 ((j : Int) + 1) = ((j + 1 : Nat) : Int) := by simp [wrap64]; omega
    by_cases c : j < s.size
    · have cb : decide ((j : Int) < (s.size : Int)) = true := decide_eq_true (by omega)
      have s1 : (0 ≤ (i : Int)) = True := eq_true (by omega)
      have s2 : ((i : Int) ≤ (j : Int)) = True := eq_true (by omega)
      have s3 : ((j : Int) ≤ (s.size : Int)) = True := eq_true (by omega)
      have hx0 : ∀ h : (j : Int).toNat < s.size, ((s[(j : Int).toNat]'h).toNat : Int) = bt s j := bt_at s j
      have hx1 : ∀ h : j < s.size, ((s[j]'h).toNat : Int) = bt s j := bt_at s j
      have p8 : (0 ≤ (j : Int)) = True := eq_true (by omega)
      have q8 : ((j : Int) < (s.size : Int)) = True := eq_true (by omega)
      have q9 : (j < s.size) = True := eq_true c
      have hst : runTo isOut s j = if isOut (bt s j) then runTo isOut s (j + 1) else j := by rw [runTo, dif_pos c]
      cases hp : isOut (bt s j)
      · have hr : runTo isOut s i = j := by rw [hrun, hst, hp]; simp
        have HR := Aside0.mk hr
        have hcall : ∀ W : World, Calls Try.prog 30 #[.int .u8 (bt s j)] W fun e w' => e = .returned (.bool false) ∧ ∃ m, w' = W.drewN m := fun W => by
          have z := out_calls (bt s j) W
          rw [hp] at z
          exact z.mono (fun e w' ⟨he, hd⟩ => ⟨he, hd.out⟩)
        clear hst hrun hr
        go_wp2
        go_quiet ((go_at_call 30; exact Calls.quiet_of (hcall _)))
        go_wp2
        go_quiet (fail)
        go_wp2
        go_ret
        exact ⟨by rw [HR.out]; simp, by rw [HR.out]; repeat (first | exact HW.out | apply LexAt.drawn)⟩
      · have hr : runTo isOut s i = runTo isOut s (j + 1) := by rw [hrun, hst, hp]; simp
        have HR := Aside0.mk hr
        have hcall : ∀ W : World, Calls Try.prog 30 #[.int .u8 (bt s j)] W fun e w' => e = .returned (.bool true) ∧ ∃ m, w' = W.drewN m := fun W => by
          have z := out_calls (bt s j) W
          rw [hp] at z
          exact z.mono (fun e w' ⟨he, hd⟩ => ⟨he, hd.out⟩)
        clear hst hrun hr
        go_wp2
        go_quiet ((go_at_call 30; exact Calls.quiet_of (hcall _)))
        go_wp2
        go_roundg (gk - 1)
        case measure => omega
        case rel => exact ⟨j + 1, ⟨by omega, by omega, HR.out⟩, ⟨LexAt.move (by repeat (first | exact HW.out | apply LexAt.drawn)) (j + 1)⟩⟩
    · have cb : decide ((j : Int) < (s.size : Int)) = false := decide_eq_false (by omega)
      have hr : runTo isOut s i = j := by rw [hrun, runTo, dif_neg c]
      have HR := Aside0.mk hr
      clear hrun hr
      have s1 : (0 ≤ (i : Int)) = True := eq_true (by omega)
      have s2 : ((i : Int) ≤ (j : Int)) = True := eq_true (by omega)
      have s3 : ((j : Int) ≤ (s.size : Int)) = True := eq_true (by omega)
      go_wp2
      go_quiet (fail)
      go_wp2
      go_quiet (fail)
      go_wp2
      go_ret
      exact ⟨by rw [HR.out]; simp, by rw [HR.out]; repeat (first | exact HW.out | apply LexAt.drawn)⟩


theorem info33L : (Try.prog.info? 33).map (fun i => (i.zero, i.size, i.bytes)) = some (some (.agg #[(.int .i64 0), (.string ⟨#[]⟩), (.int .i64 0), (.int .i64 0)]), 4, 40) := by kernel_rfl
set_option maxHeartbeats 8000000 in
set_option maxRecDepth 100000 in
theorem put_calls {w0 : World} {g : Nat} {s : ByteArray} {toks : List S33} {i : Nat} (kd : Int) (t : ByteArray) (nu pl : Int) (w : World) (hl : toks.length ≤ 100000) (hw : LexAt w0 g s i toks w) :
    Calls Try.prog 12 #[.pointer (some ⟨g, 0, none⟩), .int .i64 kd, .string t, .int .i64 nu, .int .i64 pl] w fun e w' => e = .returned (.tuple #[]) ∧ LexAt w0 g s i (toks ++ [(⟨kd, t, nu, pl⟩ : S33)]) w' := by
  have hu36 := Try.underlying36
  have hu33 := Try.underlying33
  obtain ⟨v, hb, hR, hB, hg⟩ := hw
  have hc2 : w.cell? ⟨g, 2, none⟩ = some v := (blk_cell hb 2).trans rfl
  have BK := Aside0.mk hb
  have HO := Aside0.mk hR
  have HB := Aside0.mk hB
  have GE := Aside0.mk hg
  clear hb hR hB hg
  go_enter Try.func12, Try.ntmps12
  go_wp2_with (first | ((with_reducible refine gate_builtin (b := .append) (xs := #[.tmp 14, .tmp 20]) rfl ?_); at_builtin; refine Kd.R_append k33 (w0 := w0) w0.heap.size rfl (.tmp 14) (.tmp 20) 22 33 (.agg #[(.int .i64 0), (.string ⟨#[]⟩), (.int .i64 0), (.int .i64 0)]) 40 rfl Try.underlying22 info33L rfl (by decide) (by omega) v toks (⟨kd, t, nu, pl⟩ : S33) [.int .i64 kd, .string t, .int .i64 nu, .int .i64 pl] (fun _ => True) (fun _ => False) rfl rfl ?aP (fun _ hk => hk.elim) ?aF ?aO ?aB ?aS ?aL ?_; (case aP => exact k33_mkM _ _ _ (⟨kd, t, nu, pl⟩ : S33)); (case aB => exact (by repeat (first | exact HB.out | apply below_alloc | apply pw_below_drewN | apply below_drew1))); (case aF => exact (fun _ _ => trivial)); (case aO => exact (by (with_reducible repeat (first | apply Kd.R_alloc | apply Kd.R_drewN | apply Kd.R_drew)); exact HO.out)); (case aS => exact (below_size (by repeat (first | exact HB.out | apply below_alloc | apply pw_below_drewN | apply below_drew1)))); (case aL => omega); intro v1 w1 ho hb1 hg1 hat; obtain ⟨A1, c1, rfl⟩ := Kd.R_slice ho; have n0_ := Aside0.mk (blk_grown (g := g) (by (with_reducible repeat (first | refine blk_drewN ?_ _ | refine blk_drew ?_ | refine blk_alloc ?_ _)); exact BK.out) hg1 (Kd.R_ne HO.out BK.out (by decide))); have n1_ := Aside0.mk (hb1); have n2_ := Aside0.mk (ho); clear BK HB HO; have BK := n0_; have HB := n1_; have HO := n2_; clear n0_ n1_ n2_ ho hb1 hg1 hat; have hf2 := blk_frozen BK.out 2; have hd2 : w1.cell? ⟨g, 2, none⟩ = some v := (blk_cell BK.out 2).trans rfl))
  go_end0
  have HO2 : ∀ n, n = (toks ++ [(⟨kd, t, nu, pl⟩ : S33)]).length → Kd.R k33 33 w1 w0.heap.size (fun _ => True) (.slice A1 n c1) (toks ++ [(⟨kd, t, nu, pl⟩ : S33)]) := fun n hn => by rw [hn]; exact HO.out
  exact ⟨rfl, ⟨_, blk_set BK.out 2 _, Kd.R_set (HO2 _ (by simp)) BK.out (by decide) 2 _, below_set HB.out GE.out, GE.out⟩⟩

def wordSpec (s : ByteArray) (i : Nat) : Int × Nat × List S33 :=
  if 16 < (s.extract i (runTo isInn s i)).size then (6, runTo isInn s i, []) else (0, runTo isInn s i, [⟨1, s.extract i (runTo isInn s i), 0, (i : Int)⟩])
set_option maxHeartbeats 8000000 in
set_option maxRecDepth 100000 in
theorem word_calls {w0 : World} {g : Nat} {s : ByteArray} {toks : List S33} (i : Nat) (w : World) (hi : i ≤ s.size) (hs : s.size ≤ 1024) (hl : toks.length ≤ 100000) (hw : LexAt w0 g s i toks w) :
    Calls Try.prog 16 #[.pointer (some ⟨g, 0, none⟩)] w fun e w' => e = .returned (.int .i64 (wordSpec s i).1) ∧ LexAt w0 g s (wordSpec s i).2.1 (toks ++ (wordSpec s i).2.2) w' := by
  have hu36 := Try.underlying36
  have HW := Aside0.mk hw
  obtain ⟨v, hb, -, -, -⟩ := hw
  have hc1 : w.cell? ⟨g, 1, none⟩ = some (.int .i64 (i : Int)) := (blk_cell hb 1).trans rfl
  obtain ⟨j, hj⟩ : ∃ j, j = runTo isInn s i := ⟨_, rfl⟩
  obtain ⟨t, ht⟩ : ∃ t, t = s.extract i j := ⟨_, rfl⟩
  have hwh : ∀ W, LexAt w0 g s i toks W → Calls Try.prog 27 #[.pointer (some ⟨g, 0, none⟩), .func (.func 28) #[] #[]] W fun e w' => e = .returned (.string t) ∧ LexAt w0 g s j toks w' := fun W h => by
    have z := while28 i W hi hs h
    rw [← hj, ← ht] at z; exact z
  have hput : ∀ W, LexAt w0 g s j toks W → Calls Try.prog 12 #[.pointer (some ⟨g, 0, none⟩), .int .i64 1, .string t, .int .i64 0, .int .i64 (i : Int)] W fun e w' => e = .returned (.tuple #[]) ∧ LexAt w0 g s j (toks ++ [(⟨1, t, 0, (i : Int)⟩ : S33)]) w' := fun W h => put_calls 1 t 0 i W hl h
  unfold wordSpec
  rw [← hj, ← ht]
  clear hj ht hb
  by_cases c : 16 < t.size
  · rw [if_pos c]
    have cb0 : decide (16 < (t.size : Int)) = true := decide_eq_true (by omega)
    have cb1 : decide (16 < t.size) = true := decide_eq_true c
    clear c
    go_enter Try.func16, Try.ntmps16
    go_wp2_with (first | (go_at_call 27; refine Calls.mono (hwh _ (by repeat (first | exact HW.out | apply LexAt.drawn))) ?_; rintro e w1 ⟨rfl, hL⟩; clear HW; have HW := Aside0.mk hL; clear hL))
    go_ret
    exact ⟨rfl, by simp only [List.append_nil]; repeat (first | exact HW.out | apply LexAt.drawn)⟩
  · rw [if_neg c]
    have cb0 : decide (16 < (t.size : Int)) = false := decide_eq_false (by omega)
    have cb1 : decide (16 < t.size) = false := decide_eq_false c
    clear c
    go_enter Try.func16, Try.ntmps16
    go_wp2_with (first | (go_at_call 27; refine Calls.mono (hwh _ (by repeat (first | exact HW.out | apply LexAt.drawn))) ?_; rintro e w1 ⟨rfl, hL⟩; clear HW; have HW := Aside0.mk hL; clear hL) | (go_at_call 12; refine Calls.mono (hput _ (by repeat (first | exact HW.out | apply LexAt.drawn))) ?_; rintro e w2 ⟨rfl, hL⟩; clear HW; have HW := Aside0.mk hL; clear hL))
    go_ret
    exact ⟨rfl, by repeat (first | exact HW.out | apply LexAt.drawn)⟩

def numFrom (t : ByteArray) (i : Nat) (n : Int) : Int := if i < t.size then numFrom t (i + 1) (wrap64 (wrap64 (10 * n) + IntKind.u8.wrap (bt t i - 48))) else n
termination_by t.size - i
def numSpec (t : ByteArray) : Int × Int := if 1 < t.size ∧ bt t 0 = 48 then (1, 0) else if 4 < t.size then (3, 0) else (0, numFrom t 0 0)
def numberSpec (s : ByteArray) (i : Nat) : Int × Nat × List S33 :=
  if (numSpec (s.extract i (runTo isDig s i))).1 = 0 then (0, runTo isDig s i, [⟨2, s.extract i (runTo isDig s i), (numSpec (s.extract i (runTo isDig s i))).2, (i : Int)⟩]) else ((numSpec (s.extract i (runTo isDig s i))).1, runTo isDig s i, [])
set_option maxHeartbeats 8000000 in
set_option maxRecDepth 100000 in
theorem number_calls {w0 : World} {g : Nat} {s : ByteArray} {toks : List S33} (i : Nat) (w : World) (hi : i ≤ s.size) (hs : s.size ≤ 1024) (hl : toks.length ≤ 100000) (hw : LexAt w0 g s i toks w) :
    Calls Try.prog 18 #[.pointer (some ⟨g, 0, none⟩)] w fun e w' => e = .returned (.int .i64 (numberSpec s i).1) ∧ LexAt w0 g s (numberSpec s i).2.1 (toks ++ (numberSpec s i).2.2) w' := by
  have hu36 := Try.underlying36
  have HW := Aside0.mk hw
  obtain ⟨v, hb, -, -, -⟩ := hw
  have hc1 : w.cell? ⟨g, 1, none⟩ = some (.int .i64 (i : Int)) := (blk_cell hb 1).trans rfl
  obtain ⟨j, hj⟩ : ∃ j, j = runTo isDig s i := ⟨_, rfl⟩
  obtain ⟨t, ht⟩ : ∃ t, t = s.extract i j := ⟨_, rfl⟩
  have hwh : ∀ W, LexAt w0 g s i toks W → Calls Try.prog 27 #[.pointer (some ⟨g, 0, none⟩), .func (.func 17) #[] #[]] W fun e w' => e = .returned (.string t) ∧ LexAt w0 g s j toks w' := fun W h => by
    have z := while17 i W hi hs h
    rw [← hj, ← ht] at z; exact z
  have hput : ∀ n W, LexAt w0 g s j toks W → Calls Try.prog 12 #[.pointer (some ⟨g, 0, none⟩), .int .i64 2, .string t, .int .i64 n, .int .i64 (i : Int)] W fun e w' => e = .returned (.tuple #[]) ∧ LexAt w0 g s j (toks ++ [(⟨2, t, n, (i : Int)⟩ : S33)]) w' := fun n W h => put_calls 2 t n i W hl h
  have htz : t.size ≤ 1024 := by rw [ht, ByteArray.size_extract]; omega
  unfold numberSpec
  rw [← hj, ← ht]
  clear hj ht hb
  by_cases c : 1 < t.size
  · have cb0 : decide (1 < (t.size : Int)) = true := decide_eq_true (by omega)
    have cb1 : decide (1 < t.size) = true := decide_eq_true c
    have q5 : (0 < t.size) = True := eq_true (by omega)
    have qi5 : (0 < (t.size : Int)) = True := eq_true (by omega)
    have hx5 : ∀ h : 0 < t.size, ((t[0]'h).toNat : Int) = bt t 0 := bt_at t 0
    by_cases d : bt t 0 = 48
    · have hn : numSpec t = (1, 0) := by rw [numSpec, if_pos ⟨c, d⟩]
      simp only [hn, (by decide : ¬ ((1 : Int) = 0)), if_false]
      have d0 : (bt t 0 == 48) = true := beq_iff_eq.mpr d
      clear c d hn
      go_enter Try.func18, Try.ntmps18
      go_wp2_with (first | (go_at_call 27; refine Calls.mono (hwh _ (by repeat (first | exact HW.out | apply LexAt.drawn))) ?_; rintro e w1 ⟨rfl, hL⟩; clear HW; have HW := Aside0.mk hL; clear hL))
      go_ret
      exact ⟨rfl, by simp only [List.append_nil]; repeat (first | exact HW.out | apply LexAt.drawn)⟩
    · have d0 : (bt t 0 == 48) = false := beq_eq_false_iff_ne.mpr d
      by_cases f : 4 < t.size
      · have hn : numSpec t = (3, 0) := by rw [numSpec, if_neg (fun h => d h.2), if_pos f]
        simp only [hn, (by decide : ¬ ((3 : Int) = 0)), if_false]
        have f0 : decide (4 < (t.size : Int)) = true := decide_eq_true (by omega)
        have f1 : decide (4 < t.size) = true := decide_eq_true f
        clear c d hn f
        go_enter Try.func18, Try.ntmps18
        go_wp2_with (first | (go_at_call 27; refine Calls.mono (hwh _ (by repeat (first | exact HW.out | apply LexAt.drawn))) ?_; rintro e w1 ⟨rfl, hL⟩; clear HW; have HW := Aside0.mk hL; clear hL))
        go_ret
        exact ⟨rfl, by simp only [List.append_nil]; repeat (first | exact HW.out | apply LexAt.drawn)⟩
      · have hn : numSpec t = (0, numFrom t 0 0) := by rw [numSpec, if_neg (fun h => d h.2), if_neg f]
        simp only [hn, if_true]
        have f0 : decide (4 < (t.size : Int)) = false := decide_eq_false (by omega)
        have f1 : decide (4 < t.size) = false := decide_eq_false f
        clear c d hn
        go_enter Try.func18, Try.ntmps18
        go_wp2_with (first | (go_at_call 27; refine Calls.mono (hwh _ (by repeat (first | exact HW.out | apply LexAt.drawn))) ?_; rintro e w1 ⟨rfl, hL⟩; clear HW; have HW := Aside0.mk hL; clear hL))
        go_loopg [5, 28] t.size (fun kq v5 v28 w' => ∃ (n : Int) (m : Nat), v5 = .int .i64 n ∧ v28 = .int .i64 (m : Int) ∧ Aside0 (m + kq = t.size ∧ numFrom t 0 0 = numFrom t m n) ∧ Aside0 (LexAt w0 g s j toks w'))
        case atStart => exact ⟨0, 0, rfl, rfl, ⟨by omega, rfl⟩, ⟨by repeat (first | exact HW.out | apply LexAt.drawn)⟩⟩
        case round =>
          clear HW
          obtain ⟨n, m, rfl, rfl, ⟨hm, hrun⟩, HW⟩ := hrel
          have hst : numFrom t m n = if m < t.size then numFrom t (m + 1) (wrap64 (wrap64 (10 * n) + IntKind.u8.wrap (bt t m - 48))) else n := by rw [numFrom]
          have hw1 : wrap64 ((m : Int) + 1) = ((m + 1 : Nat) : Int) := by simp [wrap64]; omega
          by_cases c : m < t.size
          · have cb : decide ((m : Int) < (t.size : Int)) = true := decide_eq_true (by omega)
            have hx0 : ∀ h : (m : Int).toNat < t.size, ((t[(m : Int).toNat]'h).toNat : Int) = bt t m := bt_at t m
            have hx1 : ∀ h : m < t.size, ((t[m]'h).toNat : Int) = bt t m := bt_at t m
            have p8 : (0 ≤ (m : Int)) = True := eq_true (by omega)
            have q8 : ((m : Int) < (t.size : Int)) = True := eq_true (by omega)
            have q9 : (m < t.size) = True := eq_true c
            rw [if_pos c] at hst
            have HR := Aside0.mk (hrun.trans hst)
            clear hrun hst
            go_wp2
            go_roundg (gk - 1)
            case measure => omega
            case rel => exact ⟨_, m + 1, (by first | rfl | (simp; done) | (simp [*]; done)), (by first | rfl | (simp; done) | (simp [*]; done)), ⟨by omega, HR.out⟩, ⟨by repeat (first | exact HW.out | apply LexAt.drawn)⟩⟩
          · have cb : decide ((m : Int) < (t.size : Int)) = false := decide_eq_false (by omega)
            rw [if_neg c] at hst
            have hr := hrun.trans hst
            have HR := Aside0.mk hr
            clear hrun hst hr
            go_wp2_with (first | (go_at_call 12; refine Calls.mono (hput n _ (by repeat (first | exact HW.out | apply LexAt.drawn))) ?_; rintro e w2 ⟨rfl, hL⟩; clear HW; have HW := Aside0.mk hL; clear hL))
            go_ret
            exact ⟨rfl, by rw [HR.out]; repeat (first | exact HW.out | apply LexAt.drawn)⟩
  · have cb0 : decide (1 < (t.size : Int)) = false := decide_eq_false (by omega)
    have cb1 : decide (1 < t.size) = false := decide_eq_false c
    have f0 : decide (4 < (t.size : Int)) = false := decide_eq_false (by omega)
    have f1 : decide (4 < t.size) = false := decide_eq_false (by omega)
    have hn : numSpec t = (0, numFrom t 0 0) := by rw [numSpec, if_neg (fun h => c h.1), if_neg (by omega)]
    simp only [hn, if_true]
    clear c hn
    go_enter Try.func18, Try.ntmps18
    go_wp2_with (first | (go_at_call 27; refine Calls.mono (hwh _ (by repeat (first | exact HW.out | apply LexAt.drawn))) ?_; rintro e w1 ⟨rfl, hL⟩; clear HW; have HW := Aside0.mk hL; clear hL))
    go_loopg [5, 28] t.size (fun kq v5 v28 w' => ∃ (n : Int) (m : Nat), v5 = .int .i64 n ∧ v28 = .int .i64 (m : Int) ∧ Aside0 (m + kq = t.size ∧ numFrom t 0 0 = numFrom t m n) ∧ Aside0 (LexAt w0 g s j toks w'))
    case atStart => exact ⟨0, 0, rfl, rfl, ⟨by omega, rfl⟩, ⟨by repeat (first | exact HW.out | apply LexAt.drawn)⟩⟩
    case round =>
      clear HW
      obtain ⟨n, m, rfl, rfl, ⟨hm, hrun⟩, HW⟩ := hrel
      have hst : numFrom t m n = if m < t.size then numFrom t (m + 1) (wrap64 (wrap64 (10 * n) + IntKind.u8.wrap (bt t m - 48))) else n := by rw [numFrom]
      have hw1 : wrap64 ((m : Int) + 1) = ((m + 1 : Nat) : Int) := by simp [wrap64]; omega
      by_cases c : m < t.size
      · have cb : decide ((m : Int) < (t.size : Int)) = true := decide_eq_true (by omega)
        have hx0 : ∀ h : (m : Int).toNat < t.size, ((t[(m : Int).toNat]'h).toNat : Int) = bt t m := bt_at t m
        have hx1 : ∀ h : m < t.size, ((t[m]'h).toNat : Int) = bt t m := bt_at t m
        have p8 : (0 ≤ (m : Int)) = True := eq_true (by omega)
        have q8 : ((m : Int) < (t.size : Int)) = True := eq_true (by omega)
        have q9 : (m < t.size) = True := eq_true c
        rw [if_pos c] at hst
        have HR := Aside0.mk (hrun.trans hst)
        clear hrun hst
        go_wp2
        go_roundg (gk - 1)
        case measure => omega
        case rel => exact ⟨_, m + 1, (by first | rfl | (simp; done) | (simp [*]; done)), (by first | rfl | (simp; done) | (simp [*]; done)), ⟨by omega, HR.out⟩, ⟨by repeat (first | exact HW.out | apply LexAt.drawn)⟩⟩
      · have cb : decide ((m : Int) < (t.size : Int)) = false := decide_eq_false (by omega)
        rw [if_neg c] at hst
        have hr := hrun.trans hst
        have HR := Aside0.mk hr
        clear hrun hst hr
        go_wp2_with (first | (go_at_call 12; refine Calls.mono (hput n _ (by repeat (first | exact HW.out | apply LexAt.drawn))) ?_; rintro e w2 ⟨rfl, hL⟩; clear HW; have HW := Aside0.mk hL; clear hL))
        go_ret
        exact ⟨rfl, by rw [HR.out]; repeat (first | exact HW.out | apply LexAt.drawn)⟩

def has2 (t : ByteArray) : Bool := decide (2 ≤ t.size) && bt t 0 == 47 && bt t 1 == 47
theorem u8_47 (a : UInt8) : (a == 47) = ((a.toNat : Int) == 47) := by
  by_cases h : a = 47
  · subst h; rfl
  · have : ¬ a.toNat = 47 := fun e => h (UInt8.toNat_inj.mp e)
    rw [beq_eq_false_iff_ne.mpr h, beq_eq_false_iff_ne.mpr (by omega)]
theorem has2_eq (t : ByteArray) : strings_HasPrefix.f t ⟨#[47, 47]⟩ = some (has2 t) := by
  obtain ⟨⟨l⟩⟩ := t
  unfold strings_HasPrefix.f stringslite_HasPrefix.f has2
  match l with
  | [] => rfl
  | [a] => rfl
  | a :: b :: r =>
    have h1 : ((ByteArray.mk ⟨a :: b :: r⟩).size : Int) ≥ ((ByteArray.mk #[47, 47]).size : Int) := by simp [ByteArray.size]; omega
    have h2 : (0 : Int) ≤ ((ByteArray.mk #[47, 47]).size : Int) := by simp [ByteArray.size]
    rw [if_pos h1, if_pos h2, if_pos h1, ByteArray.toList_eq, ByteArray.toList_eq, ByteArray.data_extract]
    have h3 : ((Array.mk (a :: b :: r)).extract 0 (((ByteArray.mk #[47, 47]).size : Int)).toNat).toList = [a, b] := by simp [ByteArray.size]
    have h4 : (decide (2 ≤ (ByteArray.mk ⟨a :: b :: r⟩).size)) = true := by simp [ByteArray.size]
    have h5 : bt (ByteArray.mk ⟨a :: b :: r⟩) 0 = (a.toNat : Int) := by
      rw [bt, dif_pos (show _ < (ByteArray.mk ⟨a :: b :: r⟩).size by show _ < (a :: b :: r).length; simp only [List.length_cons]; omega)]; rfl
    have h6 : bt (ByteArray.mk ⟨a :: b :: r⟩) 1 = (b.toNat : Int) := by
      rw [bt, dif_pos (show _ < (ByteArray.mk ⟨a :: b :: r⟩).size by show _ < (a :: b :: r).length; simp only [List.length_cons]; omega)]; rfl
    rw [h3, h4, h5, h6, ← u8_47, ← u8_47]
    simp
def noteSpec (s : ByteArray) (i : Nat) : Bool × Nat := if has2 (s.extract i s.size) then (true, runTo isOut s i) else (false, i)
set_option maxHeartbeats 8000000 in
set_option maxRecDepth 100000 in
theorem note_calls {w0 : World} {g : Nat} {s : ByteArray} {toks : List S33} (i : Nat) (w : World) (hi : i ≤ s.size) (hs : s.size ≤ 1024) (hw : LexAt w0 g s i toks w) :
    Calls Try.prog 19 #[.pointer (some ⟨g, 0, none⟩)] w fun e w' => e = .returned (.bool (noteSpec s i).1) ∧ LexAt w0 g s (noteSpec s i).2 toks w' := by
  have hu36 := Try.underlying36
  have HW := Aside0.mk hw
  obtain ⟨v, hb, -, -, -⟩ := hw
  have hc0 : w.cell? ⟨g, 0, none⟩ = some (.string s) := (blk_cell hb 0).trans rfl
  have hc1 : w.cell? ⟨g, 1, none⟩ = some (.int .i64 (i : Int)) := (blk_cell hb 1).trans rfl
  have s1 : (0 ≤ (i : Int)) = True := eq_true (by omega)
  have s2 : ((i : Int) ≤ (s.size : Int)) = True := eq_true (by omega)
  obtain ⟨r, hr⟩ : ∃ r, r = has2 (s.extract i s.size) := ⟨_, rfl⟩
  have hcall : ∀ W : World, Calls Try.prog 29 #[.string (s.extract i s.size), .string ⟨#[47, 47]⟩] W fun e w' => e = .returned (.bool r) ∧ ∃ m, w' = W.drewN m := fun W => by
    have z := strings_HasPrefix.calls (s.extract i s.size) ⟨#[47, 47]⟩ _ W (has2_eq _)
    rw [← hr] at z
    exact z.mono (fun e w' ⟨he, hd⟩ => ⟨he, hd.out⟩)
  have hwh : ∀ W, LexAt w0 g s i toks W → Calls Try.prog 27 #[.pointer (some ⟨g, 0, none⟩), .func (.func 30) #[] #[]] W fun e w' => e = .returned (.string (s.extract i (runTo isOut s i))) ∧ LexAt w0 g s (runTo isOut s i) toks w' := fun W h => while30 i W hi hs h
  unfold noteSpec
  rw [← hr]
  clear hr hb
  cases r
  · simp only [Bool.false_eq_true, if_false]
    go_enter Try.func19, Try.ntmps19
    go_wp2
    go_quiet ((go_at_call 29; exact Calls.quiet_of (hcall _)))
    go_wp2
    go_ret
    exact ⟨rfl, by repeat (first | exact HW.out | apply LexAt.drawn)⟩
  · simp only [if_true]
    go_enter Try.func19, Try.ntmps19
    go_wp2
    go_quiet ((go_at_call 29; exact Calls.quiet_of (hcall _)))
    go_wp2_with (first | (go_at_call 27; refine Calls.mono (hwh _ (by repeat (first | exact HW.out | apply LexAt.drawn))) ?_; rintro e w1 ⟨rfl, hL⟩; clear HW; have HW := Aside0.mk hL; clear hL))
    go_ret
    exact ⟨rfl, by repeat (first | exact HW.out | apply LexAt.drawn)⟩

def isSign (c : Int) : Bool := c == 123 || c == 125 || c == 40 || c == 41 || c == 60 || c == 62 || c == 58 || c == 59 || c == 44 || c == 63
theorem sign_fin : ∀ x : Fin 256, decide (Lib.indexByte [123, 125, 40, 41, 60, 62, 58, 59, 44, 63] ((x.val : Int).toNat.toUInt8) < 0) = !isSign (x.val : Int) := by decide +kernel
theorem sign_eq {c : Int} (h0 : 0 ≤ c) (h1 : c ≤ 255) : decide (Lib.indexByte [123, 125, 40, 41, 60, 62, 58, 59, 44, 63] c.toNat.toUInt8 < 0) = !isSign c := by
  obtain ⟨n, rfl⟩ := Int.eq_ofNat_of_zero_le h0
  exact sign_fin ⟨n, by omega⟩
theorem at_world {P : Program} {Q : Exit → Act → World → Prop} {a : Act} {w : World} {c : Code} (R : World → Prop) (h : R w) (k : ∀ W, R W → c.wp P Q a W) : c.wp P Q a w := k w h
def oneSpec (s : ByteArray) (i : Nat) : Int × Nat × List S33 :=
  if isLet (bt s i) then wordSpec s i
  else if isDig (bt s i) then numberSpec s i
  else if bt s i = 47 then (if (noteSpec s i).1 then (0, (noteSpec s i).2, []) else (5, (noteSpec s i).2, []))
  else if bt s i = 32 ∨ bt s i = 9 ∨ bt s i = 10 ∨ bt s i = 13 then (0, i + 1, [])
  else if isSign (bt s i) then (0, i + 1, [⟨3, s.extract i (i + 1), 0, (i : Int)⟩])
  else (5, i, [])
set_option maxHeartbeats 8000000 in
set_option maxRecDepth 100000 in
theorem one_letter {w0 : World} {g : Nat} {s : ByteArray} {toks : List S33} (i : Nat) (w : World) (hi : i < s.size) (hs : s.size ≤ 1024) (hl : toks.length ≤ 100000) (hw : LexAt w0 g s i toks w) (ha : isLet (bt s i) = true) :
    Calls Try.prog 11 #[.pointer (some ⟨g, 0, none⟩)] w fun e w' => e = .returned (.int .i64 (wordSpec s i).1) ∧ LexAt w0 g s (wordSpec s i).2.1 (toks ++ (wordSpec s i).2.2) w' := by
  have hu36 := Try.underlying36
  have HW := Aside0.mk hw
  obtain ⟨v, hb, -, -, -⟩ := hw
  have hc0 : w.cell? ⟨g, 0, none⟩ = some (.string s) := (blk_cell hb 0).trans rfl
  have hc1 : w.cell? ⟨g, 1, none⟩ = some (.int .i64 (i : Int)) := (blk_cell hb 1).trans rfl
  have hf1 := blk_frozen hb 1
  have hx0 : ∀ h : (i : Int).toNat < s.size, ((s[(i : Int).toNat]'h).toNat : Int) = bt s i := bt_at s i
  have hx1 : ∀ h : i < s.size, ((s[i]'h).toNat : Int) = bt s i := bt_at s i
  have p8 : (0 ≤ (i : Int)) = True := eq_true (by omega)
  have q8 : ((i : Int) < (s.size : Int)) = True := eq_true (by omega)
  have q9 : (i < s.size) = True := eq_true hi
  have h15 : ∀ W : World, Calls Try.prog 15 #[.int .u8 (bt s i)] W fun e w' => e = .returned (.bool true) ∧ ∃ m, w' = W.drewN m := fun W => by
    have z := letter_calls (bt s i) W
    rw [ha] at z
    exact z.mono (fun e w' ⟨he, hd⟩ => ⟨he, hd.out⟩)
  clear hb
  go_enter Try.func11, Try.ntmps11
  go_wp2
  go_quiet (fail)
  clear hx0 hx1
  go_wp2_with (first | (go_at_call 15; refine Calls.mono (h15 _) ?_; rintro e w' ⟨rfl, ⟨nd, rfl⟩⟩) | (go_at_call 16; refine Calls.mono (word_calls i _ (Nat.le_of_lt hi) hs hl (by repeat (first | exact HW.out | apply LexAt.drawn))) ?_; rintro e w1 ⟨rfl, hL⟩; clear HW; have HW := Aside0.mk hL; clear hL))
  go_ret
  exact ⟨rfl, by repeat (first | exact HW.out | apply LexAt.drawn)⟩
set_option maxHeartbeats 8000000 in
set_option maxRecDepth 100000 in
theorem one_digit {w0 : World} {g : Nat} {s : ByteArray} {toks : List S33} (i : Nat) (w : World) (hi : i < s.size) (hs : s.size ≤ 1024) (hl : toks.length ≤ 100000) (hw : LexAt w0 g s i toks w) (ha : isLet (bt s i) = false) (hd : isDig (bt s i) = true) :
    Calls Try.prog 11 #[.pointer (some ⟨g, 0, none⟩)] w fun e w' => e = .returned (.int .i64 (numberSpec s i).1) ∧ LexAt w0 g s (numberSpec s i).2.1 (toks ++ (numberSpec s i).2.2) w' := by
  have hu36 := Try.underlying36
  have HW := Aside0.mk hw
  obtain ⟨v, hb, -, -, -⟩ := hw
  have hc0 : w.cell? ⟨g, 0, none⟩ = some (.string s) := (blk_cell hb 0).trans rfl
  have hc1 : w.cell? ⟨g, 1, none⟩ = some (.int .i64 (i : Int)) := (blk_cell hb 1).trans rfl
  have hf1 := blk_frozen hb 1
  have hx0 : ∀ h : (i : Int).toNat < s.size, ((s[(i : Int).toNat]'h).toNat : Int) = bt s i := bt_at s i
  have hx1 : ∀ h : i < s.size, ((s[i]'h).toNat : Int) = bt s i := bt_at s i
  have p8 : (0 ≤ (i : Int)) = True := eq_true (by omega)
  have q8 : ((i : Int) < (s.size : Int)) = True := eq_true (by omega)
  have q9 : (i < s.size) = True := eq_true hi
  have h15 : ∀ W : World, Calls Try.prog 15 #[.int .u8 (bt s i)] W fun e w' => e = .returned (.bool false) ∧ ∃ m, w' = W.drewN m := fun W => by
    have z := letter_calls (bt s i) W
    rw [ha] at z
    exact z.mono (fun e w' ⟨he, hd⟩ => ⟨he, hd.out⟩)
  have h17 : ∀ W : World, Calls Try.prog 17 #[.int .u8 (bt s i)] W fun e w' => e = .returned (.bool true) ∧ ∃ m, w' = W.drewN m := fun W => by
    have z := digit_calls (bt s i) W
    rw [hd] at z
    exact z.mono (fun e w' ⟨he, hd⟩ => ⟨he, hd.out⟩)
  clear hb
  go_enter Try.func11, Try.ntmps11
  go_wp2
  go_quiet (fail)
  clear hx0 hx1
  go_wp2_with (first | (go_at_call 15; refine Calls.mono (h15 _) ?_; rintro e w' ⟨rfl, ⟨nd, rfl⟩⟩) | (go_at_call 17; refine Calls.mono (h17 _) ?_; rintro e w' ⟨rfl, ⟨nd, rfl⟩⟩) | (go_at_call 18; refine Calls.mono (number_calls i _ (Nat.le_of_lt hi) hs hl (by repeat (first | exact HW.out | apply LexAt.drawn))) ?_; rintro e w1 ⟨rfl, hL⟩; clear HW; have HW := Aside0.mk hL; clear hL))
  go_ret
  exact ⟨rfl, by repeat (first | exact HW.out | apply LexAt.drawn)⟩
set_option maxHeartbeats 8000000 in
set_option maxRecDepth 100000 in
theorem one_note {w0 : World} {g : Nat} {s : ByteArray} {toks : List S33} (i : Nat) (w : World) (hi : i < s.size) (hs : s.size ≤ 1024) (hl : toks.length ≤ 100000) (hw : LexAt w0 g s i toks w) (ha : isLet (bt s i) = false) (hd : isDig (bt s i) = false) (h47 : bt s i = 47) (hn : (noteSpec s i).1 = true) :
    Calls Try.prog 11 #[.pointer (some ⟨g, 0, none⟩)] w fun e w' => e = .returned (.int .i64 (((0, (noteSpec s i).2, []) : Int × Nat × List S33)).1) ∧ LexAt w0 g s (((0, (noteSpec s i).2, []) : Int × Nat × List S33)).2.1 (toks ++ (((0, (noteSpec s i).2, []) : Int × Nat × List S33)).2.2) w' := by
  have hu36 := Try.underlying36
  have HW := Aside0.mk hw
  obtain ⟨v, hb, -, -, -⟩ := hw
  have hc0 : w.cell? ⟨g, 0, none⟩ = some (.string s) := (blk_cell hb 0).trans rfl
  have hc1 : w.cell? ⟨g, 1, none⟩ = some (.int .i64 (i : Int)) := (blk_cell hb 1).trans rfl
  have hf1 := blk_frozen hb 1
  have hx0 : ∀ h : (i : Int).toNat < s.size, ((s[(i : Int).toNat]'h).toNat : Int) = bt s i := bt_at s i
  have hx1 : ∀ h : i < s.size, ((s[i]'h).toNat : Int) = bt s i := bt_at s i
  have p8 : (0 ≤ (i : Int)) = True := eq_true (by omega)
  have q8 : ((i : Int) < (s.size : Int)) = True := eq_true (by omega)
  have q9 : (i < s.size) = True := eq_true hi
  have h15 : ∀ W : World, Calls Try.prog 15 #[.int .u8 (bt s i)] W fun e w' => e = .returned (.bool false) ∧ ∃ m, w' = W.drewN m := fun W => by
    have z := letter_calls (bt s i) W
    rw [ha] at z
    exact z.mono (fun e w' ⟨he, hd⟩ => ⟨he, hd.out⟩)
  have h17 : ∀ W : World, Calls Try.prog 17 #[.int .u8 (bt s i)] W fun e w' => e = .returned (.bool false) ∧ ∃ m, w' = W.drewN m := fun W => by
    have z := digit_calls (bt s i) W
    rw [hd] at z
    exact z.mono (fun e w' ⟨he, hd⟩ => ⟨he, hd.out⟩)
  have hnote : ∀ W, LexAt w0 g s i toks W → Calls Try.prog 19 #[.pointer (some ⟨g, 0, none⟩)] W fun e w' => e = .returned (.bool true) ∧ LexAt w0 g s (noteSpec s i).2 toks w' := fun W h => by
    have z := note_calls i W (Nat.le_of_lt hi) hs h
    rw [hn] at z; exact z
  have e47 : (bt s i == 47) = true := beq_iff_eq.mpr h47
  clear h47
  clear hb
  go_enter Try.func11, Try.ntmps11
  go_wp2
  go_quiet (fail)
  clear hx0 hx1
  go_wp2_with (first | (go_at_call 15; refine Calls.mono (h15 _) ?_; rintro e w' ⟨rfl, ⟨nd, rfl⟩⟩) | (go_at_call 17; refine Calls.mono (h17 _) ?_; rintro e w' ⟨rfl, ⟨nd, rfl⟩⟩) | (go_at_call 19; refine Calls.mono (hnote _ (by repeat (first | exact HW.out | apply LexAt.drawn))) ?_; rintro e w1 ⟨rfl, hL⟩; clear HW; have HW := Aside0.mk hL; clear hL))
  go_ret
  exact ⟨rfl, by rw [List.append_nil]; repeat (first | exact HW.out | apply LexAt.drawn)⟩
set_option maxHeartbeats 8000000 in
set_option maxRecDepth 100000 in
theorem one_slash {w0 : World} {g : Nat} {s : ByteArray} {toks : List S33} (i : Nat) (w : World) (hi : i < s.size) (hs : s.size ≤ 1024) (hl : toks.length ≤ 100000) (hw : LexAt w0 g s i toks w) (ha : isLet (bt s i) = false) (hd : isDig (bt s i) = false) (h47 : bt s i = 47) (hn : (noteSpec s i).1 = false) :
    Calls Try.prog 11 #[.pointer (some ⟨g, 0, none⟩)] w fun e w' => e = .returned (.int .i64 (((5, (noteSpec s i).2, []) : Int × Nat × List S33)).1) ∧ LexAt w0 g s (((5, (noteSpec s i).2, []) : Int × Nat × List S33)).2.1 (toks ++ (((5, (noteSpec s i).2, []) : Int × Nat × List S33)).2.2) w' := by
  have hu36 := Try.underlying36
  have HW := Aside0.mk hw
  obtain ⟨v, hb, -, -, -⟩ := hw
  have hc0 : w.cell? ⟨g, 0, none⟩ = some (.string s) := (blk_cell hb 0).trans rfl
  have hc1 : w.cell? ⟨g, 1, none⟩ = some (.int .i64 (i : Int)) := (blk_cell hb 1).trans rfl
  have hf1 := blk_frozen hb 1
  have hx0 : ∀ h : (i : Int).toNat < s.size, ((s[(i : Int).toNat]'h).toNat : Int) = bt s i := bt_at s i
  have hx1 : ∀ h : i < s.size, ((s[i]'h).toNat : Int) = bt s i := bt_at s i
  have p8 : (0 ≤ (i : Int)) = True := eq_true (by omega)
  have q8 : ((i : Int) < (s.size : Int)) = True := eq_true (by omega)
  have q9 : (i < s.size) = True := eq_true hi
  have h15 : ∀ W : World, Calls Try.prog 15 #[.int .u8 (bt s i)] W fun e w' => e = .returned (.bool false) ∧ ∃ m, w' = W.drewN m := fun W => by
    have z := letter_calls (bt s i) W
    rw [ha] at z
    exact z.mono (fun e w' ⟨he, hd⟩ => ⟨he, hd.out⟩)
  have h17 : ∀ W : World, Calls Try.prog 17 #[.int .u8 (bt s i)] W fun e w' => e = .returned (.bool false) ∧ ∃ m, w' = W.drewN m := fun W => by
    have z := digit_calls (bt s i) W
    rw [hd] at z
    exact z.mono (fun e w' ⟨he, hd⟩ => ⟨he, hd.out⟩)
  have hnote : ∀ W, LexAt w0 g s i toks W → Calls Try.prog 19 #[.pointer (some ⟨g, 0, none⟩)] W fun e w' => e = .returned (.bool false) ∧ LexAt w0 g s (noteSpec s i).2 toks w' := fun W h => by
    have z := note_calls i W (Nat.le_of_lt hi) hs h
    rw [hn] at z; exact z
  have e47 : (bt s i == 47) = true := beq_iff_eq.mpr h47
  clear h47
  clear hb
  go_enter Try.func11, Try.ntmps11
  go_wp2
  go_quiet (fail)
  clear hx0 hx1
  go_wp2_with (first | (go_at_call 15; refine Calls.mono (h15 _) ?_; rintro e w' ⟨rfl, ⟨nd, rfl⟩⟩) | (go_at_call 17; refine Calls.mono (h17 _) ?_; rintro e w' ⟨rfl, ⟨nd, rfl⟩⟩) | (go_at_call 19; refine Calls.mono (hnote _ (by repeat (first | exact HW.out | apply LexAt.drawn))) ?_; rintro e w1 ⟨rfl, hL⟩; clear HW; have HW := Aside0.mk hL; clear hL))
  go_ret
  exact ⟨rfl, by rw [List.append_nil]; repeat (first | exact HW.out | apply LexAt.drawn)⟩
set_option maxHeartbeats 8000000 in
set_option maxRecDepth 100000 in
theorem one_b32 {w0 : World} {g : Nat} {s : ByteArray} {toks : List S33} (i : Nat) (w : World) (hi : i < s.size) (hs : s.size ≤ 1024) (hl : toks.length ≤ 100000) (hw : LexAt w0 g s i toks w) (ha : isLet (bt s i) = false) (hd : isDig (bt s i) = false) (hc : bt s i = 32) :
    Calls Try.prog 11 #[.pointer (some ⟨g, 0, none⟩)] w fun e w' => e = .returned (.int .i64 (((0, i + 1, []) : Int × Nat × List S33)).1) ∧ LexAt w0 g s (((0, i + 1, []) : Int × Nat × List S33)).2.1 (toks ++ (((0, i + 1, []) : Int × Nat × List S33)).2.2) w' := by
  have hu36 := Try.underlying36
  have HW := Aside0.mk hw
  obtain ⟨v, hb, -, -, -⟩ := hw
  have hc0 : w.cell? ⟨g, 0, none⟩ = some (.string s) := (blk_cell hb 0).trans rfl
  have hc1 : w.cell? ⟨g, 1, none⟩ = some (.int .i64 (i : Int)) := (blk_cell hb 1).trans rfl
  have hf1 := blk_frozen hb 1
  have hx0 : ∀ h : (i : Int).toNat < s.size, ((s[(i : Int).toNat]'h).toNat : Int) = bt s i := bt_at s i
  have hx1 : ∀ h : i < s.size, ((s[i]'h).toNat : Int) = bt s i := bt_at s i
  have p8 : (0 ≤ (i : Int)) = True := eq_true (by omega)
  have q8 : ((i : Int) < (s.size : Int)) = True := eq_true (by omega)
  have q9 : (i < s.size) = True := eq_true hi
  have h15 : ∀ W : World, Calls Try.prog 15 #[.int .u8 (bt s i)] W fun e w' => e = .returned (.bool false) ∧ ∃ m, w' = W.drewN m := fun W => by
    have z := letter_calls (bt s i) W
    rw [ha] at z
    exact z.mono (fun e w' ⟨he, hd⟩ => ⟨he, hd.out⟩)
  have h17 : ∀ W : World, Calls Try.prog 17 #[.int .u8 (bt s i)] W fun e w' => e = .returned (.bool false) ∧ ∃ m, w' = W.drewN m := fun W => by
    have z := digit_calls (bt s i) W
    rw [hd] at z
    exact z.mono (fun e w' ⟨he, hd⟩ => ⟨he, hd.out⟩)
  have e47 : (bt s i == 47) = false := beq_eq_false_iff_ne.mpr (by omega)
  have e32 : (bt s i == 32) = true := beq_iff_eq.mpr hc
  have hw1 : wrap64 ((i : Int) + 1) = ((i + 1 : Nat) : Int) := by simp [wrap64]; omega
  clear hc
  clear hb
  go_enter Try.func11, Try.ntmps11
  go_wp2
  go_quiet (fail)
  clear hx0 hx1
  go_wp2_with (first | (go_at_call 15; refine Calls.mono (h15 _) ?_; rintro e w' ⟨rfl, ⟨nd, rfl⟩⟩) | (go_at_call 17; refine Calls.mono (h17 _) ?_; rintro e w' ⟨rfl, ⟨nd, rfl⟩⟩))
  go_ret
  exact ⟨rfl, by rw [List.append_nil]; exact LexAt.move (by repeat (first | exact HW.out | apply LexAt.drawn)) (i + 1)⟩
set_option maxHeartbeats 8000000 in
set_option maxRecDepth 100000 in
theorem one_b9 {w0 : World} {g : Nat} {s : ByteArray} {toks : List S33} (i : Nat) (w : World) (hi : i < s.size) (hs : s.size ≤ 1024) (hl : toks.length ≤ 100000) (hw : LexAt w0 g s i toks w) (ha : isLet (bt s i) = false) (hd : isDig (bt s i) = false) (hc : bt s i = 9) :
    Calls Try.prog 11 #[.pointer (some ⟨g, 0, none⟩)] w fun e w' => e = .returned (.int .i64 (((0, i + 1, []) : Int × Nat × List S33)).1) ∧ LexAt w0 g s (((0, i + 1, []) : Int × Nat × List S33)).2.1 (toks ++ (((0, i + 1, []) : Int × Nat × List S33)).2.2) w' := by
  have hu36 := Try.underlying36
  have HW := Aside0.mk hw
  obtain ⟨v, hb, -, -, -⟩ := hw
  have hc0 : w.cell? ⟨g, 0, none⟩ = some (.string s) := (blk_cell hb 0).trans rfl
  have hc1 : w.cell? ⟨g, 1, none⟩ = some (.int .i64 (i : Int)) := (blk_cell hb 1).trans rfl
  have hf1 := blk_frozen hb 1
  have hx0 : ∀ h : (i : Int).toNat < s.size, ((s[(i : Int).toNat]'h).toNat : Int) = bt s i := bt_at s i
  have hx1 : ∀ h : i < s.size, ((s[i]'h).toNat : Int) = bt s i := bt_at s i
  have p8 : (0 ≤ (i : Int)) = True := eq_true (by omega)
  have q8 : ((i : Int) < (s.size : Int)) = True := eq_true (by omega)
  have q9 : (i < s.size) = True := eq_true hi
  have h15 : ∀ W : World, Calls Try.prog 15 #[.int .u8 (bt s i)] W fun e w' => e = .returned (.bool false) ∧ ∃ m, w' = W.drewN m := fun W => by
    have z := letter_calls (bt s i) W
    rw [ha] at z
    exact z.mono (fun e w' ⟨he, hd⟩ => ⟨he, hd.out⟩)
  have h17 : ∀ W : World, Calls Try.prog 17 #[.int .u8 (bt s i)] W fun e w' => e = .returned (.bool false) ∧ ∃ m, w' = W.drewN m := fun W => by
    have z := digit_calls (bt s i) W
    rw [hd] at z
    exact z.mono (fun e w' ⟨he, hd⟩ => ⟨he, hd.out⟩)
  have e47 : (bt s i == 47) = false := beq_eq_false_iff_ne.mpr (by omega)
  have e32 : (bt s i == 32) = false := beq_eq_false_iff_ne.mpr (by omega)
  have e9 : (bt s i == 9) = true := beq_iff_eq.mpr hc
  have hw1 : wrap64 ((i : Int) + 1) = ((i + 1 : Nat) : Int) := by simp [wrap64]; omega
  clear hc
  clear hb
  go_enter Try.func11, Try.ntmps11
  go_wp2
  go_quiet (fail)
  clear hx0 hx1
  go_wp2_with (first | (go_at_call 15; refine Calls.mono (h15 _) ?_; rintro e w' ⟨rfl, ⟨nd, rfl⟩⟩) | (go_at_call 17; refine Calls.mono (h17 _) ?_; rintro e w' ⟨rfl, ⟨nd, rfl⟩⟩))
  go_ret
  exact ⟨rfl, by rw [List.append_nil]; exact LexAt.move (by repeat (first | exact HW.out | apply LexAt.drawn)) (i + 1)⟩
set_option maxHeartbeats 8000000 in
set_option maxRecDepth 100000 in
theorem one_b10 {w0 : World} {g : Nat} {s : ByteArray} {toks : List S33} (i : Nat) (w : World) (hi : i < s.size) (hs : s.size ≤ 1024) (hl : toks.length ≤ 100000) (hw : LexAt w0 g s i toks w) (ha : isLet (bt s i) = false) (hd : isDig (bt s i) = false) (hc : bt s i = 10) :
    Calls Try.prog 11 #[.pointer (some ⟨g, 0, none⟩)] w fun e w' => e = .returned (.int .i64 (((0, i + 1, []) : Int × Nat × List S33)).1) ∧ LexAt w0 g s (((0, i + 1, []) : Int × Nat × List S33)).2.1 (toks ++ (((0, i + 1, []) : Int × Nat × List S33)).2.2) w' := by
  have hu36 := Try.underlying36
  have HW := Aside0.mk hw
  obtain ⟨v, hb, -, -, -⟩ := hw
  have hc0 : w.cell? ⟨g, 0, none⟩ = some (.string s) := (blk_cell hb 0).trans rfl
  have hc1 : w.cell? ⟨g, 1, none⟩ = some (.int .i64 (i : Int)) := (blk_cell hb 1).trans rfl
  have hf1 := blk_frozen hb 1
  have hx0 : ∀ h : (i : Int).toNat < s.size, ((s[(i : Int).toNat]'h).toNat : Int) = bt s i := bt_at s i
  have hx1 : ∀ h : i < s.size, ((s[i]'h).toNat : Int) = bt s i := bt_at s i
  have p8 : (0 ≤ (i : Int)) = True := eq_true (by omega)
  have q8 : ((i : Int) < (s.size : Int)) = True := eq_true (by omega)
  have q9 : (i < s.size) = True := eq_true hi
  have h15 : ∀ W : World, Calls Try.prog 15 #[.int .u8 (bt s i)] W fun e w' => e = .returned (.bool false) ∧ ∃ m, w' = W.drewN m := fun W => by
    have z := letter_calls (bt s i) W
    rw [ha] at z
    exact z.mono (fun e w' ⟨he, hd⟩ => ⟨he, hd.out⟩)
  have h17 : ∀ W : World, Calls Try.prog 17 #[.int .u8 (bt s i)] W fun e w' => e = .returned (.bool false) ∧ ∃ m, w' = W.drewN m := fun W => by
    have z := digit_calls (bt s i) W
    rw [hd] at z
    exact z.mono (fun e w' ⟨he, hd⟩ => ⟨he, hd.out⟩)
  have e47 : (bt s i == 47) = false := beq_eq_false_iff_ne.mpr (by omega)
  have e32 : (bt s i == 32) = false := beq_eq_false_iff_ne.mpr (by omega)
  have e9 : (bt s i == 9) = false := beq_eq_false_iff_ne.mpr (by omega)
  have e10 : (bt s i == 10) = true := beq_iff_eq.mpr hc
  have hw1 : wrap64 ((i : Int) + 1) = ((i + 1 : Nat) : Int) := by simp [wrap64]; omega
  clear hc
  clear hb
  go_enter Try.func11, Try.ntmps11
  go_wp2
  go_quiet (fail)
  clear hx0 hx1
  go_wp2_with (first | (go_at_call 15; refine Calls.mono (h15 _) ?_; rintro e w' ⟨rfl, ⟨nd, rfl⟩⟩) | (go_at_call 17; refine Calls.mono (h17 _) ?_; rintro e w' ⟨rfl, ⟨nd, rfl⟩⟩))
  go_ret
  exact ⟨rfl, by rw [List.append_nil]; exact LexAt.move (by repeat (first | exact HW.out | apply LexAt.drawn)) (i + 1)⟩
set_option maxHeartbeats 8000000 in
set_option maxRecDepth 100000 in
theorem one_b13 {w0 : World} {g : Nat} {s : ByteArray} {toks : List S33} (i : Nat) (w : World) (hi : i < s.size) (hs : s.size ≤ 1024) (hl : toks.length ≤ 100000) (hw : LexAt w0 g s i toks w) (ha : isLet (bt s i) = false) (hd : isDig (bt s i) = false) (hc : bt s i = 13) :
    Calls Try.prog 11 #[.pointer (some ⟨g, 0, none⟩)] w fun e w' => e = .returned (.int .i64 (((0, i + 1, []) : Int × Nat × List S33)).1) ∧ LexAt w0 g s (((0, i + 1, []) : Int × Nat × List S33)).2.1 (toks ++ (((0, i + 1, []) : Int × Nat × List S33)).2.2) w' := by
  have hu36 := Try.underlying36
  have HW := Aside0.mk hw
  obtain ⟨v, hb, -, -, -⟩ := hw
  have hc0 : w.cell? ⟨g, 0, none⟩ = some (.string s) := (blk_cell hb 0).trans rfl
  have hc1 : w.cell? ⟨g, 1, none⟩ = some (.int .i64 (i : Int)) := (blk_cell hb 1).trans rfl
  have hf1 := blk_frozen hb 1
  have hx0 : ∀ h : (i : Int).toNat < s.size, ((s[(i : Int).toNat]'h).toNat : Int) = bt s i := bt_at s i
  have hx1 : ∀ h : i < s.size, ((s[i]'h).toNat : Int) = bt s i := bt_at s i
  have p8 : (0 ≤ (i : Int)) = True := eq_true (by omega)
  have q8 : ((i : Int) < (s.size : Int)) = True := eq_true (by omega)
  have q9 : (i < s.size) = True := eq_true hi
  have h15 : ∀ W : World, Calls Try.prog 15 #[.int .u8 (bt s i)] W fun e w' => e = .returned (.bool false) ∧ ∃ m, w' = W.drewN m := fun W => by
    have z := letter_calls (bt s i) W
    rw [ha] at z
    exact z.mono (fun e w' ⟨he, hd⟩ => ⟨he, hd.out⟩)
  have h17 : ∀ W : World, Calls Try.prog 17 #[.int .u8 (bt s i)] W fun e w' => e = .returned (.bool false) ∧ ∃ m, w' = W.drewN m := fun W => by
    have z := digit_calls (bt s i) W
    rw [hd] at z
    exact z.mono (fun e w' ⟨he, hd⟩ => ⟨he, hd.out⟩)
  have e47 : (bt s i == 47) = false := beq_eq_false_iff_ne.mpr (by omega)
  have e32 : (bt s i == 32) = false := beq_eq_false_iff_ne.mpr (by omega)
  have e9 : (bt s i == 9) = false := beq_eq_false_iff_ne.mpr (by omega)
  have e10 : (bt s i == 10) = false := beq_eq_false_iff_ne.mpr (by omega)
  have e13 : (bt s i == 13) = true := beq_iff_eq.mpr hc
  have hw1 : wrap64 ((i : Int) + 1) = ((i + 1 : Nat) : Int) := by simp [wrap64]; omega
  clear hc
  clear hb
  go_enter Try.func11, Try.ntmps11
  go_wp2
  go_quiet (fail)
  clear hx0 hx1
  go_wp2_with (first | (go_at_call 15; refine Calls.mono (h15 _) ?_; rintro e w' ⟨rfl, ⟨nd, rfl⟩⟩) | (go_at_call 17; refine Calls.mono (h17 _) ?_; rintro e w' ⟨rfl, ⟨nd, rfl⟩⟩))
  go_ret
  exact ⟨rfl, by rw [List.append_nil]; exact LexAt.move (by repeat (first | exact HW.out | apply LexAt.drawn)) (i + 1)⟩
set_option maxHeartbeats 8000000 in
set_option maxRecDepth 100000 in
theorem one_bad {w0 : World} {g : Nat} {s : ByteArray} {toks : List S33} (i : Nat) (w : World) (hi : i < s.size) (hs : s.size ≤ 1024) (hl : toks.length ≤ 100000) (hw : LexAt w0 g s i toks w) (ha : isLet (bt s i) = false) (hd : isDig (bt s i) = false) (hn47 : ¬ bt s i = 47) (hn32 : ¬ bt s i = 32) (hn9 : ¬ bt s i = 9) (hn10 : ¬ bt s i = 10) (hn13 : ¬ bt s i = 13) (hsn : isSign (bt s i) = false) :
    Calls Try.prog 11 #[.pointer (some ⟨g, 0, none⟩)] w fun e w' => e = .returned (.int .i64 (((5, i, []) : Int × Nat × List S33)).1) ∧ LexAt w0 g s (((5, i, []) : Int × Nat × List S33)).2.1 (toks ++ (((5, i, []) : Int × Nat × List S33)).2.2) w' := by
  have hu36 := Try.underlying36
  have HW := Aside0.mk hw
  obtain ⟨v, hb, -, -, -⟩ := hw
  have hc0 : w.cell? ⟨g, 0, none⟩ = some (.string s) := (blk_cell hb 0).trans rfl
  have hc1 : w.cell? ⟨g, 1, none⟩ = some (.int .i64 (i : Int)) := (blk_cell hb 1).trans rfl
  have hf1 := blk_frozen hb 1
  have hx0 : ∀ h : (i : Int).toNat < s.size, ((s[(i : Int).toNat]'h).toNat : Int) = bt s i := bt_at s i
  have hx1 : ∀ h : i < s.size, ((s[i]'h).toNat : Int) = bt s i := bt_at s i
  have p8 : (0 ≤ (i : Int)) = True := eq_true (by omega)
  have q8 : ((i : Int) < (s.size : Int)) = True := eq_true (by omega)
  have q9 : (i < s.size) = True := eq_true hi
  have h15 : ∀ W : World, Calls Try.prog 15 #[.int .u8 (bt s i)] W fun e w' => e = .returned (.bool false) ∧ ∃ m, w' = W.drewN m := fun W => by
    have z := letter_calls (bt s i) W
    rw [ha] at z
    exact z.mono (fun e w' ⟨he, hd⟩ => ⟨he, hd.out⟩)
  have h17 : ∀ W : World, Calls Try.prog 17 #[.int .u8 (bt s i)] W fun e w' => e = .returned (.bool false) ∧ ∃ m, w' = W.drewN m := fun W => by
    have z := digit_calls (bt s i) W
    rw [hd] at z
    exact z.mono (fun e w' ⟨he, hd⟩ => ⟨he, hd.out⟩)
  have e47 : (bt s i == 47) = false := beq_eq_false_iff_ne.mpr hn47
  have e32 : (bt s i == 32) = false := beq_eq_false_iff_ne.mpr hn32
  have e9 : (bt s i == 9) = false := beq_eq_false_iff_ne.mpr hn9
  have e10 : (bt s i == 10) = false := beq_eq_false_iff_ne.mpr hn10
  have e13 : (bt s i == 13) = false := beq_eq_false_iff_ne.mpr hn13
  have h20 : ∀ W : World, Calls Try.prog 20 #[.string ⟨#[123, 125, 40, 41, 60, 62, 58, 59, 44, 63]⟩, .int .u8 (bt s i)] W fun e w' => e = .returned (.int .i64 (Lib.indexByte [123, 125, 40, 41, 60, 62, 58, 59, 44, 63] (bt s i).toNat.toUInt8)) ∧ w' = W := fun W => Try.strings_IndexByte _ _ W
  have hsg := sign_eq (bt_range s i).1 (bt_range s i).2
  rw [hsn] at hsg
  obtain ⟨ix, hix⟩ : ∃ ix, ix = Lib.indexByte [123, 125, 40, 41, 60, 62, 58, 59, 44, 63] (bt s i).toNat.toUInt8 := ⟨_, rfl⟩
  rw [← hix] at hsg h20
  clear hix
  simp only [Bool.not_true, Bool.not_false] at hsg
  clear hb
  go_enter Try.func11, Try.ntmps11
  go_wp2
  go_quiet (fail)
  clear hx0 hx1
  go_wp2_with (first | (go_at_call 15; refine Calls.mono (h15 _) ?_; rintro e w' ⟨rfl, ⟨nd, rfl⟩⟩) | (go_at_call 17; refine Calls.mono (h17 _) ?_; rintro e w' ⟨rfl, ⟨nd, rfl⟩⟩) | (go_at_call 20; refine Calls.mono (h20 _) ?_; rintro e w' ⟨rfl, rfl⟩))
  go_ret
  exact ⟨rfl, by rw [List.append_nil]; repeat (first | exact HW.out | apply LexAt.drawn)⟩
set_option maxHeartbeats 8000000 in
set_option maxRecDepth 100000 in
theorem one_sign {w0 : World} {g : Nat} {s : ByteArray} {toks : List S33} (i : Nat) (w : World) (hi : i < s.size) (hs : s.size ≤ 1024) (hl : toks.length ≤ 100000) (hw : LexAt w0 g s i toks w) (ha : isLet (bt s i) = false) (hd : isDig (bt s i) = false) (hn47 : ¬ bt s i = 47) (hn32 : ¬ bt s i = 32) (hn9 : ¬ bt s i = 9) (hn10 : ¬ bt s i = 10) (hn13 : ¬ bt s i = 13) (hsn : isSign (bt s i) = true) :
    Calls Try.prog 11 #[.pointer (some ⟨g, 0, none⟩)] w fun e w' => e = .returned (.int .i64 (((0, i + 1, [⟨3, s.extract i (i + 1), 0, (i : Int)⟩]) : Int × Nat × List S33)).1) ∧ LexAt w0 g s (((0, i + 1, [⟨3, s.extract i (i + 1), 0, (i : Int)⟩]) : Int × Nat × List S33)).2.1 (toks ++ (((0, i + 1, [⟨3, s.extract i (i + 1), 0, (i : Int)⟩]) : Int × Nat × List S33)).2.2) w' := by
  have hu36 := Try.underlying36
  have HW := Aside0.mk hw
  obtain ⟨v, hb, -, -, -⟩ := hw
  have hc0 : w.cell? ⟨g, 0, none⟩ = some (.string s) := (blk_cell hb 0).trans rfl
  have hc1 : w.cell? ⟨g, 1, none⟩ = some (.int .i64 (i : Int)) := (blk_cell hb 1).trans rfl
  have hf1 := blk_frozen hb 1
  have hx0 : ∀ h : (i : Int).toNat < s.size, ((s[(i : Int).toNat]'h).toNat : Int) = bt s i := bt_at s i
  have hx1 : ∀ h : i < s.size, ((s[i]'h).toNat : Int) = bt s i := bt_at s i
  have p8 : (0 ≤ (i : Int)) = True := eq_true (by omega)
  have q8 : ((i : Int) < (s.size : Int)) = True := eq_true (by omega)
  have q9 : (i < s.size) = True := eq_true hi
  have h15 : ∀ W : World, Calls Try.prog 15 #[.int .u8 (bt s i)] W fun e w' => e = .returned (.bool false) ∧ ∃ m, w' = W.drewN m := fun W => by
    have z := letter_calls (bt s i) W
    rw [ha] at z
    exact z.mono (fun e w' ⟨he, hd⟩ => ⟨he, hd.out⟩)
  have h17 : ∀ W : World, Calls Try.prog 17 #[.int .u8 (bt s i)] W fun e w' => e = .returned (.bool false) ∧ ∃ m, w' = W.drewN m := fun W => by
    have z := digit_calls (bt s i) W
    rw [hd] at z
    exact z.mono (fun e w' ⟨he, hd⟩ => ⟨he, hd.out⟩)
  have e47 : (bt s i == 47) = false := beq_eq_false_iff_ne.mpr hn47
  have e32 : (bt s i == 32) = false := beq_eq_false_iff_ne.mpr hn32
  have e9 : (bt s i == 9) = false := beq_eq_false_iff_ne.mpr hn9
  have e10 : (bt s i == 10) = false := beq_eq_false_iff_ne.mpr hn10
  have e13 : (bt s i == 13) = false := beq_eq_false_iff_ne.mpr hn13
  have h20 : ∀ W : World, Calls Try.prog 20 #[.string ⟨#[123, 125, 40, 41, 60, 62, 58, 59, 44, 63]⟩, .int .u8 (bt s i)] W fun e w' => e = .returned (.int .i64 (Lib.indexByte [123, 125, 40, 41, 60, 62, 58, 59, 44, 63] (bt s i).toNat.toUInt8)) ∧ w' = W := fun W => Try.strings_IndexByte _ _ W
  have hsg := sign_eq (bt_range s i).1 (bt_range s i).2
  rw [hsn] at hsg
  obtain ⟨ix, hix⟩ : ∃ ix, ix = Lib.indexByte [123, 125, 40, 41, 60, 62, 58, 59, 44, 63] (bt s i).toNat.toUInt8 := ⟨_, rfl⟩
  rw [← hix] at hsg h20
  clear hix
  simp only [Bool.not_true, Bool.not_false] at hsg
  have hw1 : wrap64 ((i : Int) + 1) = ((i + 1 : Nat) : Int) := by simp [wrap64]; omega
  clear hb
  go_enter Try.func11, Try.ntmps11
  go_wp2
  go_quiet (fail)
  clear hx0 hx1
  go_wp2_with (first | (go_at_call 15; refine Calls.mono (h15 _) ?_; rintro e w' ⟨rfl, ⟨nd, rfl⟩⟩) | (go_at_call 17; refine Calls.mono (h17 _) ?_; rintro e w' ⟨rfl, ⟨nd, rfl⟩⟩) | (go_at_call 20; refine Calls.mono (h20 _) ?_; rintro e w' ⟨rfl, rfl⟩))
  refine at_world (LexAt w0 g s (i + 1) toks) (LexAt.move (by repeat (first | exact HW.out | apply LexAt.drawn)) (i + 1)) ?_
  clear hc0 hc1 hf1 HW
  intro W1 HW
  have HW := Aside0.mk HW
  obtain ⟨v1, hb, -, -, -⟩ := HW.out
  have hc0 : W1.cell? ⟨g, 0, none⟩ = some (.string s) := (blk_cell hb 0).trans rfl
  have hc1 : W1.cell? ⟨g, 1, none⟩ = some (.int .i64 ((i : Int) + 1)) := (blk_cell hb 1).trans rfl
  clear hb
  have t1 : (0 ≤ (i : Int)) = True := eq_true (by omega)
  have t2 : ((i : Int) ≤ (i : Int) + 1) = True := eq_true (by omega)
  have t3 : ((i : Int) + 1 ≤ (s.size : Int)) = True := eq_true (by omega)
  have hput : ∀ W, LexAt w0 g s (i + 1) toks W → Calls Try.prog 12 #[.pointer (some ⟨g, 0, none⟩), .int .i64 3, .string (s.extract i (i + 1)), .int .i64 0, .int .i64 (i : Int)] W fun e w' => e = .returned (.tuple #[]) ∧ LexAt w0 g s (i + 1) (toks ++ [(⟨3, s.extract i (i + 1), 0, (i : Int)⟩ : S33)]) w' := fun W h => put_calls 3 _ 0 i W hl h
  have u1 : IntKind.i64.wrap ((i : Int) + 1 - 1) = (i : Int) := by rw [IntKind.wrap_i64]; omega
  have u2 : IntKind.i64.wrap (i : Int) = (i : Int) := by rw [IntKind.wrap_i64]; omega
  have u3 : wrap64 ((i : Int) + 1 - 1) = (i : Int) := by unfold wrap64; omega
  have u4 : wrap64 (i : Int) = (i : Int) := by unfold wrap64; omega
  go_still_tail 20, (by kernel_rfl)
  change wpList _ _ _ _ _ (W1.drewN 1)
  have HW2 := HW.out.drawn 1
  clear HW hc0 hc1
  revert HW2
  generalize W1.drewN 1 = W2
  intro HW2
  have HW := Aside0.mk HW2
  clear HW2
  go_wp2_with (first | (go_at_call 12; refine Calls.mono (hput _ (by repeat (first | exact HW.out | apply LexAt.drawn))) ?_; rintro e w2 ⟨rfl, hL⟩; clear HW; have HW := Aside0.mk hL; clear hL))
  go_ret
  exact ⟨rfl, by repeat (first | exact HW.out | apply LexAt.drawn)⟩

theorem runTo_step {p : Int → Bool} {s : ByteArray} {i : Nat} (hi : i < s.size) (hp : p (bt s i) = true) : i + 1 ≤ runTo p s i ∧ runTo p s i ≤ s.size := by
  have h := runTo_le p s (s.size - (i + 1)) (i + 1) rfl (by omega)
  rw [runTo, dif_pos hi, hp, if_pos rfl]
  exact h
theorem inn_of_let {c : Int} (h : isLet c = true) : isInn c = true := by unfold isInn; rw [h]; rfl
theorem oneSpec_ok {s : ByteArray} {i : Nat} (hi : i < s.size) : (oneSpec s i).1 = 0 → i < (oneSpec s i).2.1 ∧ (oneSpec s i).2.1 ≤ s.size ∧ (oneSpec s i).2.2.length ≤ 1 := by
  unfold oneSpec
  by_cases h1 : isLet (bt s i) = true
  · rw [if_pos h1]
    have := runTo_step hi (inn_of_let h1)
    unfold wordSpec
    split
    · intro h; simp at h
    · intro _; simp; omega
  · rw [if_neg h1]
    by_cases h2 : isDig (bt s i) = true
    · rw [if_pos h2]
      have := runTo_step hi h2
      unfold numberSpec
      split
      · intro _; simp; omega
      · rename_i h; intro h'; exact absurd h' h
    · rw [if_neg h2]
      by_cases h3 : bt s i = 47
      · rw [if_pos h3]
        have := runTo_step (p := isOut) hi (by rw [h3]; rfl)
        by_cases h4 : has2 (s.extract i s.size) = true
        · rw [show noteSpec s i = (true, runTo isOut s i) by rw [noteSpec, if_pos h4]]; intro _; simp; omega
        · rw [show noteSpec s i = (false, i) by rw [noteSpec, if_neg h4]]; intro h; simp at h
      · rw [if_neg h3]
        split
        · intro _; simp; omega
        · split
          · intro _; simp; omega
          · intro h; simp at h
theorem one_calls {w0 : World} {g : Nat} {s : ByteArray} {toks : List S33} (i : Nat) (w : World) (hi : i < s.size) (hs : s.size ≤ 1024) (hl : toks.length ≤ 100000) (hw : LexAt w0 g s i toks w) :
    Calls Try.prog 11 #[.pointer (some ⟨g, 0, none⟩)] w fun e w' => e = .returned (.int .i64 (oneSpec s i).1) ∧ LexAt w0 g s (oneSpec s i).2.1 (toks ++ (oneSpec s i).2.2) w' := by
  unfold oneSpec
  by_cases h1 : isLet (bt s i) = true
  · simp only [if_pos h1]; exact one_letter i w hi hs hl hw h1
  · simp only [if_neg h1]
    have g1 := Bool.eq_false_iff.mpr h1
    by_cases h2 : isDig (bt s i) = true
    · simp only [if_pos h2]; exact one_digit i w hi hs hl hw g1 h2
    · simp only [if_neg h2]
      have g2 := Bool.eq_false_iff.mpr h2
      by_cases h3 : bt s i = 47
      · simp only [if_pos h3]
        by_cases h4 : (noteSpec s i).1 = true
        · simp only [if_pos h4]; exact one_note i w hi hs hl hw g1 g2 h3 h4
        · simp only [if_neg h4]; exact one_slash i w hi hs hl hw g1 g2 h3 (Bool.eq_false_iff.mpr h4)
      · simp only [if_neg h3]
        by_cases h5 : bt s i = 32 ∨ bt s i = 9 ∨ bt s i = 10 ∨ bt s i = 13
        · simp only [if_pos h5]
          rcases h5 with h | h | h | h
          · exact one_b32 i w hi hs hl hw g1 g2 h
          · exact one_b9 i w hi hs hl hw g1 g2 h
          · exact one_b10 i w hi hs hl hw g1 g2 h
          · exact one_b13 i w hi hs hl hw g1 g2 h
        · simp only [if_neg h5]
          have n32 : ¬ bt s i = 32 := fun h => h5 (.inl h)
          have n9 : ¬ bt s i = 9 := fun h => h5 (.inr (.inl h))
          have n10 : ¬ bt s i = 10 := fun h => h5 (.inr (.inr (.inl h)))
          have n13 : ¬ bt s i = 13 := fun h => h5 (.inr (.inr (.inr h)))
          by_cases h6 : isSign (bt s i) = true
          · simp only [if_pos h6]; exact one_sign i w hi hs hl hw g1 g2 h3 n32 n9 n10 n13 h6
          · simp only [if_neg h6]; exact one_bad i w hi hs hl hw g1 g2 h3 n32 n9 n10 n13 (Bool.eq_false_iff.mpr h6)

def tokFrom (s : ByteArray) : Nat → Nat → List S33 → List S33 × Int × Int
  | 0, _, acc => (acc, 0, 0)
  | k + 1, i, acc => if i < s.size then (if (oneSpec s i).1 = 0 then tokFrom s k (oneSpec s i).2.1 (acc ++ (oneSpec s i).2.2) else ([], (oneSpec s i).1, (i : Int))) else (acc ++ [⟨4, ⟨#[]⟩, 0, (s.size : Int)⟩], 0, 0)
def lexSpec (s : ByteArray) : List S33 × Int × Int := if 1024 < s.size then ([], 3, 0) else tokFrom s (s.size + 1) 0 []

set_option maxHeartbeats 8000000 in
set_option maxRecDepth 100000 in
theorem tokens_long (s : ByteArray) (w : World) (hs : 1024 < s.size) :
    Calls Try.prog 6 #[.string s] w fun e w' => ∃ v0_ : Value, e = .returned (.tuple #[v0_, .agg #[.int .i64 3, .int .i64 0]]) ∧ Kd.R k33 33 w' w.heap.size (fun _ => True) v0_ [] ∧ Below w.heap.size w w' := by
  have hu25 := Try.underlying25
  have HB := Aside0.mk (Below.refl w.heap.size w)
  have c2b0 : decide (1024 < (s.size : Int)) = true := decide_eq_true (by omega)
  have c2b1 : decide (1024 < s.size) = true := decide_eq_true hs
  go_enter Try.func6, Try.ntmps6
  go_wp2_with (first | ((with_reducible refine gate_dst (N := 3) rfl ?_); refine box_event ?hg (N := 3) ?hd (cs := #[.int .i64 0, .int .i64 0]) (t := 25) ?hr ?_; (case hd => rfl); (case hg => rfl); (case hr => first | (go_simp; done) | (go_simp; rfl)); intro gf hgf w3 hbf hb3; have n0_ := Aside0.mk (below_step (by repeat (first | exact HB.out | apply below_alloc | apply pw_below_drewN | apply below_drew1)) hb3); have n1_ := Aside0.mk hbf; have n2_ := Aside0.mk ((by rw [hgf]; exact (below_size (by repeat (first | exact HB.out | apply below_alloc | apply pw_below_drewN | apply below_drew1)))) : w.heap.size ≤ gf); clear HB; have HB := n0_; have BF := n1_; have GF := n2_; clear n0_ n1_ n2_; clear hbf hb3 hgf; have hcf0 : w3.cell? ⟨gf, 0, none⟩ = some (.int .i64 0) := (blk_cell BF.out 0).trans rfl; have hcf1 : w3.cell? ⟨gf, 1, none⟩ = some (.int .i64 0) := (blk_cell BF.out 1).trans rfl; have hff0 := blk_frozen BF.out 0; have hff1 := blk_frozen BF.out 1))
  refine bodyPost_ret (results_tc rfl _ _ gf 25 #[.int .i64 3, .int .i64 0] (0, 0) _ rfl (by (with_reducible repeat (first | refine blk_drewN ?_ _ | refine blk_drew ?_ | refine blk_alloc ?_ _)); refine blk_put (cs := #[.int .i64 3, .int .i64 0]) ?_ 1 _ rfl; (with_reducible repeat (first | refine blk_drewN ?_ _ | refine blk_drew ?_ | refine blk_alloc ?_ _)); refine blk_put (cs := #[.int .i64 0, .int .i64 0]) ?_ 0 _ rfl; (with_reducible repeat (first | refine blk_drewN ?_ _ | refine blk_drew ?_ | refine blk_alloc ?_ _)); exact BF.out) Try.underlying25 rfl (by kernel_rfl)) rfl ?_
  exact ⟨_, rfl, Kd.R_nil _ _ _ _ _, by repeat (first | exact HB.out | apply below_alloc | apply pw_below_drewN | apply below_drew1 | refine below_set ?_ GF.out)⟩
set_option maxHeartbeats 8000000 in
set_option maxRecDepth 100000 in
theorem tokens_short (s : ByteArray) (w : World) (hs : s.size ≤ 1024) :
    Calls Try.prog 6 #[.string s] w fun e w' => ∃ v0_ : Value, e = .returned (.tuple #[v0_, .agg #[.int .i64 (tokFrom s (s.size + 1) 0 []).2.1, .int .i64 (tokFrom s (s.size + 1) 0 []).2.2]]) ∧ Kd.R k33 33 w' w.heap.size (fun _ => True) v0_ (tokFrom s (s.size + 1) 0 []).1 ∧ Below w.heap.size w w' := by
  have hu25 := Try.underlying25
  have hu36 := Try.underlying36
  have HB := Aside0.mk (Below.refl w.heap.size w)
  have c2b0 : decide (1024 < (s.size : Int)) = false := decide_eq_false (by omega)
  have c2b1 : decide (1024 < s.size) = false := decide_eq_false (by omega)
  obtain ⟨res, hres⟩ : ∃ res, res = tokFrom s (s.size + 1) 0 [] := ⟨_, rfl⟩
  rw [← hres]
  have HRES := Aside0.mk hres
  clear hres
  go_enter Try.func6, Try.ntmps6
  go_upto_region 3 with (first | ((with_reducible refine gate_dst (N := 3) rfl ?_); refine box_event ?hg (N := 3) ?hd (cs := #[.int .i64 0, .int .i64 0]) (t := 25) ?hr ?_; (case hd => rfl); (case hg => rfl); (case hr => first | (go_simp; done) | (go_simp; rfl)); intro gf hgf w3 hbf hb3; have n0_ := Aside0.mk (below_step (by repeat (first | exact HB.out | apply below_alloc | apply pw_below_drewN | apply below_drew1)) hb3); have n1_ := Aside0.mk hbf; have n2_ := Aside0.mk ((by rw [hgf]; exact (below_size (by repeat (first | exact HB.out | apply below_alloc | apply pw_below_drewN | apply below_drew1)))) : w.heap.size ≤ gf); clear HB; have HB := n0_; have BF := n1_; have GF := n2_; clear n0_ n1_ n2_; clear hbf hb3 hgf))
  refine at_world (fun W => W.heap[gf]? = some (.cells #[.int .i64 0, .int .i64 0] 25 (0, 0)) ∧ Below w.heap.size w W) ⟨(by (with_reducible repeat (first | refine blk_drewN ?_ _ | refine blk_drew ?_ | refine blk_alloc ?_ _)); exact BF.out), (by repeat (first | exact HB.out | apply below_alloc | apply pw_below_drewN | apply below_drew1))⟩ ?_
  clear BF HB
  intro W hW
  have BF := Aside0.mk hW.1
  have HB := Aside0.mk hW.2
  clear hW
  go_wp2_with (first | ((with_reducible refine gate_dst (N := 13) rfl ?_); refine box_event ?hg (N := 13) ?hd (cs := #[.string s, .int .i64 0, .slice none 0 0]) (t := 36) ?hr ?_; (case hd => rfl); (case hg => rfl); (case hr => first | (go_simp; done) | (go_simp; rfl)); intro g hg w4 hb4 hbl4; have HW := Aside0.mk (show LexAt W g s 0 [] w4 from ⟨_, hb4, Kd.R_nil _ _ _ _ _, hbl4, Nat.le_of_eq hg.symm⟩); clear hg hb4 hbl4))
  go_loopg [] (s.size + 1) (fun kq w' => ∃ (i : Nat) (acc : List S33), Aside0 (i ≤ s.size ∧ s.size < i + kq ∧ acc.length ≤ i ∧ res = tokFrom s kq i acc) ∧ Aside0 (LexAt W g s i acc w'))
  case atStart => exact ⟨0, [], ⟨by omega, by omega, by simp, HRES.out⟩, ⟨by repeat (first | exact HW.out | apply LexAt.drawn)⟩⟩
  case round =>
    clear HW HRES
    obtain ⟨i, acc, ⟨hi, hk, hacc, hrun⟩, HW⟩ := hrel
    cases gk with
    | zero => omega
    | succ k1 =>
      have hst : tokFrom s (k1 + 1) i acc = if i < s.size then (if (oneSpec s i).1 = 0 then tokFrom s k1 (oneSpec s i).2.1 (acc ++ (oneSpec s i).2.2) else ([], (oneSpec s i).1, (i : Int))) else (acc ++ [⟨4, ⟨#[]⟩, 0, (s.size : Int)⟩], 0, 0) := rfl
      obtain ⟨v1, hb, -, -, -⟩ := HW.out
      have hc0 : wr.cell? ⟨g, 0, none⟩ = some (.string s) := (blk_cell hb 0).trans rfl
      have hc1 : wr.cell? ⟨g, 1, none⟩ = some (.int .i64 (i : Int)) := (blk_cell hb 1).trans rfl
      clear hb
      by_cases c : i < s.size
      · rw [if_pos c] at hst
        have cb : decide ((i : Int) < (s.size : Int)) = true := decide_eq_true (by omega)
        have hok := oneSpec_ok c
        have hone : ∀ W', LexAt W g s i acc W' → Calls Try.prog 11 #[.pointer (some ⟨g, 0, none⟩)] W' fun e w' => e = .returned (.int .i64 (oneSpec s i).1) ∧ LexAt W g s (oneSpec s i).2.1 (acc ++ (oneSpec s i).2.2) w' := fun W' h => one_calls i W' c hs (by omega) h
        obtain ⟨r, hr⟩ : ∃ r, r = oneSpec s i := ⟨_, rfl⟩
        rw [← hr] at hst hok hone
        clear hr
        obtain ⟨e1, j, l⟩ := r
        simp only at hst hok hone
        by_cases c2 : e1 = 0
        · rw [if_pos c2] at hst
          have hok := hok c2
          have HX := Aside0.mk (hrun.trans hst)
          subst c2
          clear hrun hst
          go_wp2_with (first | (go_at_call 11; refine Calls.mono (hone _ (by repeat (first | exact HW.out | apply LexAt.drawn))) ?_; rintro e w2 ⟨rfl, hL⟩; clear HW; have HW := Aside0.mk hL; clear hL))
          go_roundg k1
          case measure => omega
          case rel => exact ⟨j, acc ++ l, ⟨by omega, by omega, by rw [List.length_append]; omega, HX.out⟩, ⟨by repeat (first | exact HW.out | apply LexAt.drawn)⟩⟩
        · rw [if_neg c2] at hst
          have hX := hrun.trans hst
          subst hX
          have d0 : (e1 == 0) = false := beq_eq_false_iff_ne.mpr c2
          have d1 : (e1 != 0) = true := bne_iff_ne.mpr c2
          clear hrun hst c2 hok
          go_wp2_with (first | (go_at_call 11; refine Calls.mono (hone _ (by repeat (first | exact HW.out | apply LexAt.drawn))) ?_; rintro e w2 ⟨rfl, hL⟩; clear HW; have HW := Aside0.mk hL; clear hL; obtain ⟨v2, -, -, hbw, -⟩ := HW.out; have BF2 := Aside0.mk (blk_below BF.out hbw); have HB2 := Aside0.mk (below_step HB.out hbw); clear hbw; have hcf0 : w2.cell? ⟨gf, 0, none⟩ = some (.int .i64 0) := (blk_cell BF2.out 0).trans rfl; have hcf1 : w2.cell? ⟨gf, 1, none⟩ = some (.int .i64 0) := (blk_cell BF2.out 1).trans rfl; have hff0 := blk_frozen BF2.out 0; have hff1 := blk_frozen BF2.out 1))
          refine bodyPost_ret (results_tc rfl _ _ gf 25 #[.int .i64 e1, .int .i64 (i : Int)] (0, 0) _ rfl (by (with_reducible repeat (first | refine blk_drewN ?_ _ | refine blk_drew ?_ | refine blk_alloc ?_ _)); refine blk_put (cs := #[.int .i64 e1, .int .i64 0]) ?_ 1 _ rfl; (with_reducible repeat (first | refine blk_drewN ?_ _ | refine blk_drew ?_ | refine blk_alloc ?_ _)); refine blk_put (cs := #[.int .i64 0, .int .i64 0]) ?_ 0 _ rfl; (with_reducible repeat (first | refine blk_drewN ?_ _ | refine blk_drew ?_ | refine blk_alloc ?_ _)); exact BF2.out) Try.underlying25 rfl (by kernel_rfl)) rfl ?_
          exact ⟨_, rfl, Kd.R_nil _ _ _ _ _, by repeat (first | exact HB2.out | apply below_alloc | apply pw_below_drewN | apply below_drew1 | refine below_set ?_ GF.out)⟩
      · rw [if_neg c] at hst
        have cb : decide ((i : Int) < (s.size : Int)) = false := decide_eq_false (by omega)
        have hX := hrun.trans hst
        subst hX
        clear hrun hst
        have hput : ∀ W', LexAt W g s i acc W' → Calls Try.prog 12 #[.pointer (some ⟨g, 0, none⟩), .int .i64 4, .string ⟨#[]⟩, .int .i64 0, .int .i64 (s.size : Int)] W' fun e w' => e = .returned (.tuple #[]) ∧ LexAt W g s i (acc ++ [(⟨4, ⟨#[]⟩, 0, (s.size : Int)⟩ : S33)]) w' := fun W' h => put_calls 4 _ 0 _ W' (by omega) h
        go_wp2_with (first | (go_at_call 12; refine Calls.mono (hput _ (by repeat (first | exact HW.out | apply LexAt.drawn))) ?_; rintro e w2 ⟨rfl, hL⟩; clear HW; have HW := Aside0.mk hL; clear hL; obtain ⟨v2, hb2, hR2, hbw, -⟩ := HW.out; have hc2 : w2.cell? ⟨g, 2, none⟩ = some v2 := (blk_cell hb2 2).trans rfl; have HO2 := Aside0.mk hR2; have BF2 := Aside0.mk (blk_below BF.out hbw); have HB2 := Aside0.mk (below_step HB.out hbw); have HZ := Aside0.mk (below_size HB.out); clear hb2 hR2 hbw; have hcf0 : w2.cell? ⟨gf, 0, none⟩ = some (.int .i64 0) := (blk_cell BF2.out 0).trans rfl; have hcf1 : w2.cell? ⟨gf, 1, none⟩ = some (.int .i64 0) := (blk_cell BF2.out 1).trans rfl; have hff0 := blk_frozen BF2.out 0; have hff1 := blk_frozen BF2.out 1))
        refine bodyPost_ret (results_tc rfl _ _ gf 25 #[.int .i64 0, .int .i64 0] (0, 0) _ rfl (by (with_reducible repeat (first | refine blk_drewN ?_ _ | refine blk_drew ?_ | refine blk_alloc ?_ _)); refine blk_put (cs := #[.int .i64 0, .int .i64 0]) ?_ 1 _ rfl; (with_reducible repeat (first | refine blk_drewN ?_ _ | refine blk_drew ?_ | refine blk_alloc ?_ _)); refine blk_put (cs := #[.int .i64 0, .int .i64 0]) ?_ 0 _ rfl; (with_reducible repeat (first | refine blk_drewN ?_ _ | refine blk_drew ?_ | refine blk_alloc ?_ _)); exact BF2.out) Try.underlying25 rfl (by kernel_rfl)) rfl ?_
        refine ⟨_, rfl, ?_, by repeat (first | exact HB2.out | apply below_alloc | apply pw_below_drewN | apply below_drew1 | refine below_set ?_ GF.out)⟩
        refine Kd.R_lower (base := W.heap.size) ?_ HZ.out
        exact Kd.R_set (Kd.R_set HO2.out BF2.out (by decide) 0 _) (blk_put BF2.out 0 _ rfl) (by decide) 1 _
theorem tokens_calls (s : ByteArray) (w : World) :
    Calls Try.prog 6 #[.string s] w fun e w' => ∃ v0_ : Value, e = .returned (.tuple #[v0_, .agg #[.int .i64 (lexSpec s).2.1, .int .i64 (lexSpec s).2.2]]) ∧ Kd.R k33 33 w' w.heap.size (fun _ => True) v0_ (lexSpec s).1 ∧ Below w.heap.size w w' := by
  unfold lexSpec
  by_cases h : 1024 < s.size
  · simp only [if_pos h]; exact tokens_long s w h
  · simp only [if_neg h]; exact tokens_short s w (by omega)


def lex_Tokens.f (a0 : ByteArray) : Option ((List (S33)) × Int × Int) := some (lexSpec a0)
theorem lex_Tokens.calls (a0 : ByteArray) (r1 : List (S33)) (r2 : Int) (r3 : Int) (w : World) (h : lex_Tokens.f a0 = some (r1, r2, r3)) :
    Calls Try.prog 6 #[.string a0] w fun e w' => ∃ v0_ : Value, e = .returned (.tuple #[v0_, .agg #[.int .i64 r2, .int .i64 r3]]) ∧ Kd.R k33 33 w' w.heap.size (fun _ => True) v0_ r1 ∧ Below w.heap.size w w' := by
  have h2 : lexSpec a0 = (r1, r2, r3) := Option.some.inj h
  have z := tokens_calls a0 w
  rw [h2] at z
  exact z

end Go.Proofs.Ythbllahcolnjeaa.PLexAgain
