-- written by a program of this claim's session, a turned copy of the print (it also takes a label): Lean checks it
import Derived.Test.YtpdlbdmcoghohaaPVarintTakesx0
import Derived.Test.YtpdlbdmcoghohaaPVarintTakesx1
namespace Go.Proofs.Ytpdlbdmcoghohaa.PVarintTakes
open Go.RowKit Go.Proofs.YtpdlbdmcoghohaaW.PrintWords Go.Proofs.YtpdlbdmcoghohaaW.PrintLast Go.Proofs.YtpdlbdmcoghohaaW.PrintMore
attribute [local go_sem] max2_int min2_int max_two min_two max_three min_three max_four min_four   -- for this text's walks alone
set_option linter.unusedVariables false
set_option linter.unusedSimpArgs false

/-! ### concourselaw01_VarintTakes: function 4 -/
def concourselaw01_VarintTakes.j0 : Nat → Int → Int → Int → Bool → Option (Bool)
  | 0, _, _, _, _ => none
  | k + 1, x5, x6, x9, x52 => if x52 = true then (some false) else (if x5 = 0 then ((concourseref01_Back.f x6).bind fun t122 => (if x9 = t122 then ((concourselaw01_awake.f k).bind fun t123 => (some t123)) else (some false))) else (if x9 = 0 then ((concourselaw01_awake.f k).bind fun t124 => (some t124)) else (some false)))
def concourselaw01_VarintTakes.f (k : Nat) (a0 : ByteArray) : Option (Bool) := (varint_Take.f k a0).bind fun bt113 => ((concourseref01_Take.f k a0).bind fun bt116 => ((varint_TakeInt.f k a0).bind fun bt119 => (if bt113.1 = bt116.1 then (if bt113.2.1 = bt116.2.1 then (if bt113.2.2 = bt116.2.2 then (if bt119.2.2 = bt116.2.2 then (concourselaw01_VarintTakes.j0 k bt113.2.2 bt116.1 bt119.1 (bt119.2.1 != bt116.2.1)) else (concourselaw01_VarintTakes.j0 k bt113.2.2 bt116.1 bt119.1 true)) else (concourselaw01_VarintTakes.j0 k bt113.2.2 bt116.1 bt119.1 true)) else (concourselaw01_VarintTakes.j0 k bt113.2.2 bt116.1 bt119.1 true)) else (concourselaw01_VarintTakes.j0 k bt113.2.2 bt116.1 bt119.1 true))))
theorem concourselaw01_VarintTakes.mono_l : ∀ k, (∀ y0 y1 y2 y3, LeO (concourselaw01_VarintTakes.j0 k y0 y1 y2 y3) (concourselaw01_VarintTakes.j0 (k + 1) y0 y1 y2 y3))
  | 0 => fun _ _ _ _ r h => by simp [concourselaw01_VarintTakes.j0] at h
  | k + 1 => by
    have ih0 := concourselaw01_VarintTakes.mono_l k
    · intro y0 y1 y2 y3
      unfold concourselaw01_VarintTakes.j0
      repeat' first
      | (with_reducible exact ih0 _ _ _ _)
      | (with_reducible exact concourselaw01_awake.mono _)
      | (with_reducible exact concourseref01_Take.mono _ _)
      | (with_reducible exact varint_Take.mono _ _)
      | (with_reducible exact varint_TakeInt.mono _ _)
      | (with_reducible exact LeO.refl _)
      | (with_reducible exact LeO.none _)
      | (with_reducible refine LeO.ite ?_ ?_)
      | (with_reducible refine LeO.bind ?_ (fun _ => ?_))
      | exact ih0 _ _ _ _
      | exact concourselaw01_awake.mono _
      | exact concourseref01_Take.mono _ _
      | exact varint_Take.mono _ _
      | exact varint_TakeInt.mono _ _
      | exact LeO.none _
      | refine LeO.ite ?_ ?_
      | refine LeO.bind ?_ (fun _ => ?_)
theorem concourselaw01_VarintTakes.mono : ∀ a0 k, LeO (concourselaw01_VarintTakes.f k a0) (concourselaw01_VarintTakes.f (k + 1) a0) := by
  intro a0 k
  have ih0 := concourselaw01_VarintTakes.mono_l k
  unfold concourselaw01_VarintTakes.f
  repeat' first
      | (with_reducible exact ih0 _ _ _ _)
      | (with_reducible exact concourselaw01_awake.mono _)
      | (with_reducible exact concourseref01_Take.mono _ _)
      | (with_reducible exact varint_Take.mono _ _)
      | (with_reducible exact varint_TakeInt.mono _ _)
      | (with_reducible exact LeO.refl _)
      | (with_reducible exact LeO.none _)
      | (with_reducible refine LeO.ite ?_ ?_)
      | (with_reducible refine LeO.bind ?_ (fun _ => ?_))
      | exact ih0 _ _ _ _
      | exact concourselaw01_awake.mono _
      | exact concourseref01_Take.mono _ _
      | exact varint_Take.mono _ _
      | exact varint_TakeInt.mono _ _
      | exact LeO.none _
      | refine LeO.ite ?_ ?_
      | refine LeO.bind ?_ (fun _ => ?_)
set_option maxHeartbeats 8000000 in
set_option maxRecDepth 100000 in
theorem concourselaw01_VarintTakes.calls (k : Nat) (a0 : ByteArray) (r : Bool) (w : World) (h : concourselaw01_VarintTakes.f k a0 = some r) :
    Calls Try.prog 4 #[.string a0] w fun e w' => e = .returned (.bool r) ∧ Below w.heap.size w w' := by
  have HB := Aside0.mk (Below.refl w.heap.size w)
  have H : ((varint_Take.f k a0).bind fun bt113 => ((concourseref01_Take.f k a0).bind fun bt116 => ((varint_TakeInt.f k a0).bind fun bt119 => (if bt113.1 = bt116.1 then (if bt113.2.1 = bt116.2.1 then (if bt113.2.2 = bt116.2.2 then (if bt119.2.2 = bt116.2.2 then (concourselaw01_VarintTakes.j0 k bt113.2.2 bt116.1 bt119.1 (bt119.2.1 != bt116.2.1)) else (concourselaw01_VarintTakes.j0 k bt113.2.2 bt116.1 bt119.1 true)) else (concourselaw01_VarintTakes.j0 k bt113.2.2 bt116.1 bt119.1 true)) else (concourselaw01_VarintTakes.j0 k bt113.2.2 bt116.1 bt119.1 true)) else (concourselaw01_VarintTakes.j0 k bt113.2.2 bt116.1 bt119.1 true))))) = some r := h
  clear h
  replace H := Option.bind_eq_some_iff.mp H
  obtain ⟨⟨t113, t114, t115⟩, A20, H⟩ := H
  replace H : ((concourseref01_Take.f k a0).bind fun bt116 => ((varint_TakeInt.f k a0).bind fun bt119 => (if t113 = bt116.1 then (if t114 = bt116.2.1 then (if t115 = bt116.2.2 then (if bt119.2.2 = bt116.2.2 then (concourselaw01_VarintTakes.j0 k t115 bt116.1 bt119.1 (bt119.2.1 != bt116.2.1)) else (concourselaw01_VarintTakes.j0 k t115 bt116.1 bt119.1 true)) else (concourselaw01_VarintTakes.j0 k t115 bt116.1 bt119.1 true)) else (concourselaw01_VarintTakes.j0 k t115 bt116.1 bt119.1 true)) else (concourselaw01_VarintTakes.j0 k t115 bt116.1 bt119.1 true)))) = some r := H
  have A2 := Aside0.mk A20
  clear A20
  replace H := Option.bind_eq_some_iff.mp H
  obtain ⟨⟨t116, t117, t118⟩, A30, H⟩ := H
  replace H : ((varint_TakeInt.f k a0).bind fun bt119 => (if t113 = t116 then (if t114 = t117 then (if t115 = t118 then (if bt119.2.2 = t118 then (concourselaw01_VarintTakes.j0 k t115 t116 bt119.1 (bt119.2.1 != t117)) else (concourselaw01_VarintTakes.j0 k t115 t116 bt119.1 true)) else (concourselaw01_VarintTakes.j0 k t115 t116 bt119.1 true)) else (concourselaw01_VarintTakes.j0 k t115 t116 bt119.1 true)) else (concourselaw01_VarintTakes.j0 k t115 t116 bt119.1 true))) = some r := H
  have A3 := Aside0.mk A30
  clear A30
  replace H := Option.bind_eq_some_iff.mp H
  obtain ⟨⟨t119, t120, t121⟩, A40, H⟩ := H
  replace H : (if t113 = t116 then (if t114 = t117 then (if t115 = t118 then (if t121 = t118 then (concourselaw01_VarintTakes.j0 k t115 t116 t119 (t120 != t117)) else (concourselaw01_VarintTakes.j0 k t115 t116 t119 true)) else (concourselaw01_VarintTakes.j0 k t115 t116 t119 true)) else (concourselaw01_VarintTakes.j0 k t115 t116 t119 true)) else (concourselaw01_VarintTakes.j0 k t115 t116 t119 true)) = some r := H
  have A4 := Aside0.mk A40
  clear A40
  have HC5 := Aside0.mk H
  clear H
  go_enter Try.func4, Try.ntmps4
  go_upto_region 4 with (first | ((with_reducible refine gate_callee (f := 16) rfl ?_); refine goesL_ (some 14) rfl rfl Try.func16 (by kernel_rfl) rfl #[.string a0] rfl (by (try simp only [List.map_toArray, List.map_cons, List.map_nil]); first | done | rfl | (simp only [List.length_drop, List.length_take]; rfl)) ?_; (with_reducible refine (varint_Take.calls k a0 t113 t114 t115 _ A2.out).mono ?_); rintro e w6 ⟨rfl, hb⟩; refine ⟨_, rfl, ?_⟩; have n0_ := Aside0.mk (below_step (by repeat (first | (with_reducible first | exact HB.out | apply below_alloc | apply pw_below_drewN | apply below_drew1) | exact HB.out)) hb); clear HB; have HB := n0_; clear n0_; (try clear hb); (try clear hb2); (try clear hk); (try clear hi)) | ((with_reducible refine gate_callee (f := 17) rfl ?_); refine goesL_ (some 20) rfl rfl Try.func17 (by kernel_rfl) rfl #[.string a0] rfl (by (try simp only [List.map_toArray, List.map_cons, List.map_nil]); first | done | rfl | (simp only [List.length_drop, List.length_take]; rfl)) ?_; (with_reducible refine (concourseref01_Take.calls k a0 t116 t117 t118 _ A3.out).mono ?_); rintro e w' ⟨rfl, ⟨nd, rfl⟩⟩; refine ⟨_, rfl, ?_⟩) | ((with_reducible refine gate_callee (f := 18) rfl ?_); refine goesL_ (some 26) rfl rfl Try.func18 (by kernel_rfl) rfl #[.string a0] rfl (by (try simp only [List.map_toArray, List.map_cons, List.map_nil]); first | done | rfl | (simp only [List.length_drop, List.length_take]; rfl)) ?_; (with_reducible refine (varint_TakeInt.calls k a0 t119 t120 t121 _ A4.out).mono ?_); rintro e w7 ⟨rfl, hb⟩; refine ⟨_, rfl, ?_⟩; have n0_ := Aside0.mk (below_step (by repeat (first | (with_reducible first | exact HB.out | apply below_alloc | apply pw_below_drewN | apply below_drew1) | exact HB.out)) hb); clear HB; have HB := n0_; clear n0_; (try clear hb); (try clear hb2); (try clear hk); (try clear hi)))
  (try simp only [Act.put, List.setIfInBounds_toArray, List.set_cons_zero, List.set_cons_succ])
  go_cut [52] (fun v52 wc => ∃ (kq : Nat) (x52_4 : Bool), v52 = .bool x52_4 ∧ Aside0 (concourselaw01_VarintTakes.j0 kq t115 t116 t119 x52_4 = some r) ∧ Aside0 (kq ≤ k) ∧ Aside0 (Below w.heap.size w wc))
  case first =>
    have H := HC5.out
    clear HC5
    by_cases c8 : t113 = t116
    · rw [if_pos c8] at H
      have c8b0 : (t113 == t116) = true := beq_iff_eq.mpr c8
      have c8b1 : (t113 != t116) = false := bne_eq_false_iff_eq.mpr c8
      clear c8
      (first | rw [c8b0] | (simp only [i64_w, i32_w]; rw [c8b0]) | skip)
      by_cases c9 : t114 = t117
      · rw [if_pos c9] at H
        have c9b0 : (t114 == t117) = true := beq_iff_eq.mpr c9
        have c9b1 : (t114 != t117) = false := bne_eq_false_iff_eq.mpr c9
        clear c9
        by_cases c10 : t115 = t118
        · rw [if_pos c10] at H
          have c10b0 : (t115 == t118) = true := beq_iff_eq.mpr c10
          have c10b1 : (t115 != t118) = false := bne_eq_false_iff_eq.mpr c10
          clear c10
          by_cases c11 : t121 = t118
          · rw [if_pos c11] at H
            have c11b0 : (t121 == t118) = true := beq_iff_eq.mpr c11
            have c11b1 : (t121 != t118) = false := bne_eq_false_iff_eq.mpr c11
            clear c11
            have H' := Aside0.mk H
            clear H
            go_wp2
            go_meet
            case rel => exact ⟨_, ((t120 != t117)), (by first | rfl | (simp; done) | (simp [*]; done)), H', ⟨by first | omega | exact Nat.le_refl _⟩, ⟨by repeat (first | (with_reducible first | exact HB.out | apply below_alloc | apply pw_below_drewN | apply below_drew1) | exact HB.out)⟩⟩
          · rw [if_neg c11] at H
            have c11b0 : (t121 == t118) = false := beq_eq_false_iff_ne.mpr c11
            have c11b1 : (t121 != t118) = true := bne_iff_ne.mpr c11
            have H' := Aside0.mk H
            clear H
            go_wp2
            go_meet
            case rel => exact ⟨_, (true), (by first | rfl | (simp; done) | (simp [*]; done)), H', ⟨by first | omega | exact Nat.le_refl _⟩, ⟨by repeat (first | (with_reducible first | exact HB.out | apply below_alloc | apply pw_below_drewN | apply below_drew1) | exact HB.out)⟩⟩
        · rw [if_neg c10] at H
          have c10b0 : (t115 == t118) = false := beq_eq_false_iff_ne.mpr c10
          have c10b1 : (t115 != t118) = true := bne_iff_ne.mpr c10
          have H' := Aside0.mk H
          clear H
          go_wp2
          go_meet
          case rel => exact ⟨_, (true), (by first | rfl | (simp; done) | (simp [*]; done)), H', ⟨by first | omega | exact Nat.le_refl _⟩, ⟨by repeat (first | (with_reducible first | exact HB.out | apply below_alloc | apply pw_below_drewN | apply below_drew1) | exact HB.out)⟩⟩
      · rw [if_neg c9] at H
        have c9b0 : (t114 == t117) = false := beq_eq_false_iff_ne.mpr c9
        have c9b1 : (t114 != t117) = true := bne_iff_ne.mpr c9
        have H' := Aside0.mk H
        clear H
        go_wp2
        go_meet
        case rel => exact ⟨_, (true), (by first | rfl | (simp; done) | (simp [*]; done)), H', ⟨by first | omega | exact Nat.le_refl _⟩, ⟨by repeat (first | (with_reducible first | exact HB.out | apply below_alloc | apply pw_below_drewN | apply below_drew1) | exact HB.out)⟩⟩
    · rw [if_neg c8] at H
      have c8b0 : (t113 == t116) = false := beq_eq_false_iff_ne.mpr c8
      have c8b1 : (t113 != t116) = true := bne_iff_ne.mpr c8
      (first | rw [c8b0] | (simp only [i64_w, i32_w]; rw [c8b0]) | skip)
      have H' := Aside0.mk H
      clear H
      go_wp2
      go_meet
      case rel => exact ⟨_, (true), (by first | rfl | (simp; done) | (simp [*]; done)), H', ⟨by first | omega | exact Nat.le_refl _⟩, ⟨by repeat (first | (with_reducible first | exact HB.out | apply below_alloc | apply pw_below_drewN | apply below_drew1) | exact HB.out)⟩⟩
  case rest =>
    clear HC5
    try clear c1
    try clear p2
    try clear c4
    try clear c8
    try clear c8b0
    try clear c8b1
    try clear c9
    try clear c9b0
    try clear c9b1
    try clear c10
    try clear c10b0
    try clear c10b1
    try clear c11
    try clear c11b0
    try clear c11b1
    obtain ⟨kq, x52_4, rfl, HA, HJ4, HB⟩ := hcut
    cases kq with
    | zero => exact absurd HA.out (by simp [concourselaw01_VarintTakes.j0])
    | succ kj4 =>
      have H := HA.out
      clear HA
      simp only [concourselaw01_VarintTakes.j0] at H
      by_cases c12 : x52_4 = true
      · subst c12
        have H1 : (some false) = some r := by rw [if_pos rfl] at H; exact H
        clear H
        have H := H1
        clear H1
        obtain rfl := Option.some.inj H
        go_wp2
        go_ret
        exact ⟨by first | rfl | (simp [errW_none, errW_some] <;> rfl) | (simp [*, errW_none, errW_some] <;> rfl), by repeat (first | (with_reducible first | exact HB.out | apply below_alloc | apply pw_below_drewN | apply below_drew1) | exact HB.out)⟩
      · replace c12 := Bool.eq_false_iff.mpr c12
        subst c12
        have H1 : (if t115 = 0 then ((concourseref01_Back.f t116).bind fun t122 => (if t119 = t122 then ((concourselaw01_awake.f kj4).bind fun t123 => (some t123)) else (some false))) else (if t119 = 0 then ((concourselaw01_awake.f kj4).bind fun t124 => (some t124)) else (some false))) = some r := by rw [if_neg (show ¬ (false = true) by decide)] at H; exact H
        clear H
        have H := H1
        clear H1
        by_cases c13 : t115 = 0
        · rw [if_pos c13] at H
          have c13b0 : (t115 == 0) = true := beq_iff_eq.mpr c13
          have c13b1 : (t115 != 0) = false := bne_eq_false_iff_eq.mpr c13
          clear c13
          replace H := Option.bind_eq_some_iff.mp H
          obtain ⟨t122, A140, H⟩ := H
          replace H : (if t119 = t122 then ((concourselaw01_awake.f kj4).bind fun t123 => (some t123)) else (some false)) = some r := H
          have A14 := Aside0.mk A140
          clear A140
          by_cases c15 : t119 = t122
          · rw [if_pos c15] at H
            have c15b0 : (t119 == t122) = true := beq_iff_eq.mpr c15
            have c15b1 : (t119 != t122) = false := bne_eq_false_iff_eq.mpr c15
            clear c15
            replace H := Option.bind_eq_some_iff.mp H
            obtain ⟨t123, A160, H⟩ := H
            replace H : (some t123) = some r := H
            have A16 := Aside0.mk A160
            clear A160
            obtain rfl := Option.some.inj H
            go_wp2_with (first | (go_at_call 13; (with_reducible refine (concourseref01_Back.calls t116 t122 _ A14.out).mono ?_); rintro e w' ⟨rfl, ⟨nd, rfl⟩⟩) | (go_at_call 15; (with_reducible refine (concourselaw01_awake.calls kj4  t123 _ A16.out).mono ?_); rintro e w17 ⟨rfl, hb⟩; have n0_ := Aside0.mk (below_step (by repeat (first | (with_reducible first | exact HB.out | apply below_alloc | apply pw_below_drewN | apply below_drew1) | exact HB.out)) hb); clear HB; have HB := n0_; clear n0_; (try clear hb); (try clear hb2); (try clear hk); (try clear hi)))
            go_ret
            exact ⟨by first | rfl | (simp [errW_none, errW_some] <;> rfl) | (simp [*, errW_none, errW_some] <;> rfl), by repeat (first | (with_reducible first | exact HB.out | apply below_alloc | apply pw_below_drewN | apply below_drew1) | exact HB.out)⟩
          · rw [if_neg c15] at H
            have c15b0 : (t119 == t122) = false := beq_eq_false_iff_ne.mpr c15
            have c15b1 : (t119 != t122) = true := bne_iff_ne.mpr c15
            obtain rfl := Option.some.inj H
            go_wp2_with (first | (go_at_call 13; (with_reducible refine (concourseref01_Back.calls t116 t122 _ A14.out).mono ?_); rintro e w' ⟨rfl, ⟨nd, rfl⟩⟩))
            go_ret
            exact ⟨by first | rfl | (simp [errW_none, errW_some] <;> rfl) | (simp [*, errW_none, errW_some] <;> rfl), by repeat (first | (with_reducible first | exact HB.out | apply below_alloc | apply pw_below_drewN | apply below_drew1) | exact HB.out)⟩
        · rw [if_neg c13] at H
          have c13b0 : (t115 == 0) = false := beq_eq_false_iff_ne.mpr c13
          have c13b1 : (t115 != 0) = true := bne_iff_ne.mpr c13
          by_cases c18 : t119 = 0
          · rw [if_pos c18] at H
            have c18b0 : (t119 == 0) = true := beq_iff_eq.mpr c18
            have c18b1 : (t119 != 0) = false := bne_eq_false_iff_eq.mpr c18
            clear c18
            replace H := Option.bind_eq_some_iff.mp H
            obtain ⟨t124, A190, H⟩ := H
            replace H : (some t124) = some r := H
            have A19 := Aside0.mk A190
            clear A190
            obtain rfl := Option.some.inj H
            go_wp2_with (first | (go_at_call 15; (with_reducible refine (concourselaw01_awake.calls kj4  t124 _ A19.out).mono ?_); rintro e w20 ⟨rfl, hb⟩; have n0_ := Aside0.mk (below_step (by repeat (first | (with_reducible first | exact HB.out | apply below_alloc | apply pw_below_drewN | apply below_drew1) | exact HB.out)) hb); clear HB; have HB := n0_; clear n0_; (try clear hb); (try clear hb2); (try clear hk); (try clear hi)))
            go_ret
            exact ⟨by first | rfl | (simp [errW_none, errW_some] <;> rfl) | (simp [*, errW_none, errW_some] <;> rfl), by repeat (first | (with_reducible first | exact HB.out | apply below_alloc | apply pw_below_drewN | apply below_drew1) | exact HB.out)⟩
          · rw [if_neg c18] at H
            have c18b0 : (t119 == 0) = false := beq_eq_false_iff_ne.mpr c18
            have c18b1 : (t119 != 0) = true := bne_iff_ne.mpr c18
            obtain rfl := Option.some.inj H
            go_wp2
            go_ret
            exact ⟨by first | rfl | (simp [errW_none, errW_some] <;> rfl) | (simp [*, errW_none, errW_some] <;> rfl), by repeat (first | (with_reducible first | exact HB.out | apply below_alloc | apply pw_below_drewN | apply below_drew1) | exact HB.out)⟩

/-- THE ONE PURE STATEMENT of concourselaw01_VarintTakes: yours. -/
def concourselaw01_VarintTakes.Pure : Prop := ∀ (a0 : ByteArray), a0.size ≤ 140737488351232 → ∃ k, concourselaw01_VarintTakes.f k a0 = some true
theorem concourselaw01_VarintTakes.walk (P : concourselaw01_VarintTakes.Pure) (a0 : ByteArray) (w : World) (w0 : a0.size ≤ 140737488351232) :
    Calls Try.prog 4 #[.string a0] w fun e w' => e = .returned (.bool true) ∧ Below w.heap.size w w' := by
  obtain ⟨k, h⟩ := P a0 w0
  refine (concourselaw01_VarintTakes.calls k a0 true w h).mono ?_
  rintro e w' ⟨rfl, hd⟩
  exact ⟨rfl, hd⟩

end Go.Proofs.Ytpdlbdmcoghohaa.PVarintTakes
