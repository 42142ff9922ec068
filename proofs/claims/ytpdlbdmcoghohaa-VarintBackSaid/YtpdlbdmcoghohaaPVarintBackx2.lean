-- written by a program of this claim's session, a turned copy of the print (it also takes a label): Lean checks it
import Derived.Test.YtpdlbdmcoghohaaPVarintBackx0
import Derived.Test.YtpdlbdmcoghohaaPVarintBackx1
namespace Go.Proofs.Ytpdlbdmcoghohaa.PVarintBack
open Go.RowKit Go.Proofs.YtpdlbdmcoghohaaW.PrintWords Go.Proofs.YtpdlbdmcoghohaaW.PrintLast Go.Proofs.YtpdlbdmcoghohaaW.PrintMore
attribute [local go_sem] max2_int min2_int max_two min_two max_three min_three max_four min_four   -- for this text's walks alone
set_option linter.unusedVariables false
set_option linter.unusedSimpArgs false

/-! ### concourselaw01_VarintBack: function 5 -/
mutual
def concourselaw01_VarintBack.j0 : Nat → Int → Int → ByteArray → Bool → Option (Bool)
  | 0, _, _, _, _ => none
  | k + 1, x0, x1, x7, x65 => if x65 = true then (some false) else (concourselaw01_VarintBack.l0 k x0 x1 x7 0)
def concourselaw01_VarintBack.l0 : Nat → Int → Int → ByteArray → Int → Option (Bool)
  | 0, _, _, _, _ => none
  | k + 1, x0, x1, x7, x14 => if x14 < (x7.size : Int) then (if 0 ≤ x14 then (if x14 ≤ (x7.size : Int) then ((varint_Take.f k (x7.extract 0 (x14 : Int).toNat)).bind fun bt124 => (if bt124.2.2 = 2 then (concourselaw01_VarintBack.l0 k x0 x1 x7 (wrap64 (x14 + 1))) else (some false))) else (none)) else (none)) else ((varint_Turn.f x1).bind fun t127 => ((varint_Back.f t127).bind fun t128 => (if t128 = x1 then ((varint_Back.f x0).bind fun t129 => ((varint_Turn.f t129).bind fun t130 => (if t130 = x0 then ((concourselaw01_awake.f k).bind fun t131 => (some t131)) else (some false)))) else (some false))))
end
def concourselaw01_VarintBack.f (k : Nat) (a0 : Int) (a1 : Int) (a2 : ByteArray) : Option (Bool) := (varint_Put.f k a0).bind fun t115 => (if t115.size + a2.size ≤ 9223372036854775807 then ((varint_Take.f k (t115 ++ a2)).bind fun bt116 => ((varint_PutInt.f k a1).bind fun t119 => (if t119.size + a2.size ≤ 9223372036854775807 then ((varint_TakeInt.f k (t119 ++ a2)).bind fun bt120 => (if bt116.1 = a0 then (if bt116.2.1 = (t115.size : Int) then (if bt116.2.2 = 0 then (if bt120.1 = a1 then ((varint_PutInt.f k a1).bind fun t123 => (if bt120.2.1 = (t123.size : Int) then (concourselaw01_VarintBack.j0 k a0 a1 t115 (bt120.2.2 != 0)) else (concourselaw01_VarintBack.j0 k a0 a1 t115 true))) else (concourselaw01_VarintBack.j0 k a0 a1 t115 true)) else (concourselaw01_VarintBack.j0 k a0 a1 t115 true)) else (concourselaw01_VarintBack.j0 k a0 a1 t115 true)) else (concourselaw01_VarintBack.j0 k a0 a1 t115 true))) else (none)))) else (none))
theorem concourselaw01_VarintBack.mono_l : ∀ k, (∀ y0 y1 y2 y3, LeO (concourselaw01_VarintBack.j0 k y0 y1 y2 y3) (concourselaw01_VarintBack.j0 (k + 1) y0 y1 y2 y3)) ∧ (∀ y0 y1 y2 y3, LeO (concourselaw01_VarintBack.l0 k y0 y1 y2 y3) (concourselaw01_VarintBack.l0 (k + 1) y0 y1 y2 y3))
  | 0 => ⟨fun _ _ _ _ r h => by simp [concourselaw01_VarintBack.j0] at h, fun _ _ _ _ r h => by simp [concourselaw01_VarintBack.l0] at h⟩
  | k + 1 => by
    obtain ⟨ih0, ih1⟩ := concourselaw01_VarintBack.mono_l k
    refine ⟨?_, ?_⟩
    · intro y0 y1 y2 y3
      unfold concourselaw01_VarintBack.j0
      repeat' first
      | (with_reducible exact ih0 _ _ _ _)
      | (with_reducible exact ih1 _ _ _ _)
      | (with_reducible exact concourselaw01_awake.mono _)
      | (with_reducible exact varint_Put.mono _ _)
      | (with_reducible exact varint_PutInt.mono _ _)
      | (with_reducible exact varint_Take.mono _ _)
      | (with_reducible exact varint_TakeInt.mono _ _)
      | (with_reducible exact LeO.refl _)
      | (with_reducible exact LeO.none _)
      | (with_reducible refine LeO.ite ?_ ?_)
      | (with_reducible refine LeO.bind ?_ (fun _ => ?_))
      | exact ih0 _ _ _ _
      | exact ih1 _ _ _ _
      | exact concourselaw01_awake.mono _
      | exact varint_Put.mono _ _
      | exact varint_PutInt.mono _ _
      | exact varint_Take.mono _ _
      | exact varint_TakeInt.mono _ _
      | exact LeO.none _
      | refine LeO.ite ?_ ?_
      | refine LeO.bind ?_ (fun _ => ?_)
    · intro y0 y1 y2 y3
      unfold concourselaw01_VarintBack.l0
      repeat' first
      | (with_reducible exact ih0 _ _ _ _)
      | (with_reducible exact ih1 _ _ _ _)
      | (with_reducible exact concourselaw01_awake.mono _)
      | (with_reducible exact varint_Put.mono _ _)
      | (with_reducible exact varint_PutInt.mono _ _)
      | (with_reducible exact varint_Take.mono _ _)
      | (with_reducible exact varint_TakeInt.mono _ _)
      | (with_reducible exact LeO.refl _)
      | (with_reducible exact LeO.none _)
      | (with_reducible refine LeO.ite ?_ ?_)
      | (with_reducible refine LeO.bind ?_ (fun _ => ?_))
      | exact ih0 _ _ _ _
      | exact ih1 _ _ _ _
      | exact concourselaw01_awake.mono _
      | exact varint_Put.mono _ _
      | exact varint_PutInt.mono _ _
      | exact varint_Take.mono _ _
      | exact varint_TakeInt.mono _ _
      | exact LeO.none _
      | refine LeO.ite ?_ ?_
      | refine LeO.bind ?_ (fun _ => ?_)
theorem concourselaw01_VarintBack.mono : ∀ a0 a1 a2 k, LeO (concourselaw01_VarintBack.f k a0 a1 a2) (concourselaw01_VarintBack.f (k + 1) a0 a1 a2) := by
  intro a0 a1 a2 k
  obtain ⟨ih0, ih1⟩ := concourselaw01_VarintBack.mono_l k
  unfold concourselaw01_VarintBack.f
  repeat' first
      | (with_reducible exact ih0 _ _ _ _)
      | (with_reducible exact ih1 _ _ _ _)
      | (with_reducible exact concourselaw01_awake.mono _)
      | (with_reducible exact varint_Put.mono _ _)
      | (with_reducible exact varint_PutInt.mono _ _)
      | (with_reducible exact varint_Take.mono _ _)
      | (with_reducible exact varint_TakeInt.mono _ _)
      | (with_reducible exact LeO.refl _)
      | (with_reducible exact LeO.none _)
      | (with_reducible refine LeO.ite ?_ ?_)
      | (with_reducible refine LeO.bind ?_ (fun _ => ?_))
      | exact ih0 _ _ _ _
      | exact ih1 _ _ _ _
      | exact concourselaw01_awake.mono _
      | exact varint_Put.mono _ _
      | exact varint_PutInt.mono _ _
      | exact varint_Take.mono _ _
      | exact varint_TakeInt.mono _ _
      | exact LeO.none _
      | refine LeO.ite ?_ ?_
      | refine LeO.bind ?_ (fun _ => ?_)
set_option maxHeartbeats 8000000 in
set_option maxRecDepth 100000 in
theorem concourselaw01_VarintBack.calls (k : Nat) (a0 : Int) (a1 : Int) (a2 : ByteArray) (r : Bool) (w : World) (h : concourselaw01_VarintBack.f k a0 a1 a2 = some r) :
    Calls Try.prog 5 #[.int .u64 a0, .int .i64 a1, .string a2] w fun e w' => e = .returned (.bool r) ∧ Below w.heap.size w w' := by
  have HB := Aside0.mk (Below.refl w.heap.size w)
  have H : ((varint_Put.f k a0).bind fun t115 => (if t115.size + a2.size ≤ 9223372036854775807 then ((varint_Take.f k (t115 ++ a2)).bind fun bt116 => ((varint_PutInt.f k a1).bind fun t119 => (if t119.size + a2.size ≤ 9223372036854775807 then ((varint_TakeInt.f k (t119 ++ a2)).bind fun bt120 => (if bt116.1 = a0 then (if bt116.2.1 = (t115.size : Int) then (if bt116.2.2 = 0 then (if bt120.1 = a1 then ((varint_PutInt.f k a1).bind fun t123 => (if bt120.2.1 = (t123.size : Int) then (concourselaw01_VarintBack.j0 k a0 a1 t115 (bt120.2.2 != 0)) else (concourselaw01_VarintBack.j0 k a0 a1 t115 true))) else (concourselaw01_VarintBack.j0 k a0 a1 t115 true)) else (concourselaw01_VarintBack.j0 k a0 a1 t115 true)) else (concourselaw01_VarintBack.j0 k a0 a1 t115 true)) else (concourselaw01_VarintBack.j0 k a0 a1 t115 true))) else (none)))) else (none))) = some r := h
  clear h
  replace H := Option.bind_eq_some_iff.mp H
  obtain ⟨t115, A40, H⟩ := H
  replace H : (if t115.size + a2.size ≤ 9223372036854775807 then ((varint_Take.f k (t115 ++ a2)).bind fun bt116 => ((varint_PutInt.f k a1).bind fun t119 => (if t119.size + a2.size ≤ 9223372036854775807 then ((varint_TakeInt.f k (t119 ++ a2)).bind fun bt120 => (if bt116.1 = a0 then (if bt116.2.1 = (t115.size : Int) then (if bt116.2.2 = 0 then (if bt120.1 = a1 then ((varint_PutInt.f k a1).bind fun t123 => (if bt120.2.1 = (t123.size : Int) then (concourselaw01_VarintBack.j0 k a0 a1 t115 (bt120.2.2 != 0)) else (concourselaw01_VarintBack.j0 k a0 a1 t115 true))) else (concourselaw01_VarintBack.j0 k a0 a1 t115 true)) else (concourselaw01_VarintBack.j0 k a0 a1 t115 true)) else (concourselaw01_VarintBack.j0 k a0 a1 t115 true)) else (concourselaw01_VarintBack.j0 k a0 a1 t115 true))) else (none)))) else (none)) = some r := H
  have A4 := Aside0.mk A40
  clear A40
  by_cases c5 : t115.size + a2.size ≤ 9223372036854775807
  · rw [if_pos c5] at H
    have c5b0 := eq_true c5
    have c5b1 : decide (t115.size + a2.size ≤ 9223372036854775807) = true := decide_eq_true c5
    try have c5b2 : (9223372036854775807 < t115.size + a2.size) = False := eq_false (Nat.not_lt.2 c5)
    replace H := Option.bind_eq_some_iff.mp H
    obtain ⟨⟨t116, t117, t118⟩, A60, H⟩ := H
    replace H : ((varint_PutInt.f k a1).bind fun t119 => (if t119.size + a2.size ≤ 9223372036854775807 then ((varint_TakeInt.f k (t119 ++ a2)).bind fun bt120 => (if t116 = a0 then (if t117 = (t115.size : Int) then (if t118 = 0 then (if bt120.1 = a1 then ((varint_PutInt.f k a1).bind fun t123 => (if bt120.2.1 = (t123.size : Int) then (concourselaw01_VarintBack.j0 k a0 a1 t115 (bt120.2.2 != 0)) else (concourselaw01_VarintBack.j0 k a0 a1 t115 true))) else (concourselaw01_VarintBack.j0 k a0 a1 t115 true)) else (concourselaw01_VarintBack.j0 k a0 a1 t115 true)) else (concourselaw01_VarintBack.j0 k a0 a1 t115 true)) else (concourselaw01_VarintBack.j0 k a0 a1 t115 true))) else (none))) = some r := H
    have A6 := Aside0.mk A60
    clear A60
    replace H := Option.bind_eq_some_iff.mp H
    obtain ⟨t119, A70, H⟩ := H
    replace H : (if t119.size + a2.size ≤ 9223372036854775807 then ((varint_TakeInt.f k (t119 ++ a2)).bind fun bt120 => (if t116 = a0 then (if t117 = (t115.size : Int) then (if t118 = 0 then (if bt120.1 = a1 then ((varint_PutInt.f k a1).bind fun t123 => (if bt120.2.1 = (t123.size : Int) then (concourselaw01_VarintBack.j0 k a0 a1 t115 (bt120.2.2 != 0)) else (concourselaw01_VarintBack.j0 k a0 a1 t115 true))) else (concourselaw01_VarintBack.j0 k a0 a1 t115 true)) else (concourselaw01_VarintBack.j0 k a0 a1 t115 true)) else (concourselaw01_VarintBack.j0 k a0 a1 t115 true)) else (concourselaw01_VarintBack.j0 k a0 a1 t115 true))) else (none)) = some r := H
    have A7 := Aside0.mk A70
    clear A70
    by_cases c8 : t119.size + a2.size ≤ 9223372036854775807
    · rw [if_pos c8] at H
      have c8b0 := eq_true c8
      have c8b1 : decide (t119.size + a2.size ≤ 9223372036854775807) = true := decide_eq_true c8
      try have c8b2 : (9223372036854775807 < t119.size + a2.size) = False := eq_false (Nat.not_lt.2 c8)
      replace H := Option.bind_eq_some_iff.mp H
      obtain ⟨⟨t120, t121, t122⟩, A90, H⟩ := H
      replace H : (if t116 = a0 then (if t117 = (t115.size : Int) then (if t118 = 0 then (if t120 = a1 then ((varint_PutInt.f k a1).bind fun t123 => (if t121 = (t123.size : Int) then (concourselaw01_VarintBack.j0 k a0 a1 t115 (t122 != 0)) else (concourselaw01_VarintBack.j0 k a0 a1 t115 true))) else (concourselaw01_VarintBack.j0 k a0 a1 t115 true)) else (concourselaw01_VarintBack.j0 k a0 a1 t115 true)) else (concourselaw01_VarintBack.j0 k a0 a1 t115 true)) else (concourselaw01_VarintBack.j0 k a0 a1 t115 true)) = some r := H
      have A9 := Aside0.mk A90
      clear A90
      have HC10 := Aside0.mk H
      clear H
      go_enter Try.func5, Try.ntmps5
      go_upto_region 4 with (first | ((with_reducible refine gate_callee (f := 8) rfl ?_); refine goesL_ (some 19) rfl rfl Try.func8 (by kernel_rfl) rfl #[.int .u64 a0] rfl (by (try simp only [List.map_toArray, List.map_cons, List.map_nil]); first | done | rfl | (simp only [List.length_drop, List.length_take]; rfl)) ?_; (with_reducible refine (varint_Put.calls k a0 t115 _ A4.out).mono ?_); rintro e w11 ⟨rfl, hb⟩; refine ⟨_, rfl, ?_⟩; have n0_ := Aside0.mk (below_step (by repeat (first | (with_reducible first | exact HB.out | apply below_alloc | apply pw_below_drewN | apply below_drew1) | exact HB.out)) hb); clear HB; have HB := n0_; clear n0_; (try clear hb); (try clear hb2); (try clear hk); (try clear hi)) | ((with_reducible refine gate_callee (f := 16) rfl ?_); refine goesL_ (some 24) rfl rfl Try.func16 (by kernel_rfl) rfl #[.string (t115 ++ a2)] rfl (by (try simp only [List.map_toArray, List.map_cons, List.map_nil]); first | done | rfl | (simp only [List.length_drop, List.length_take]; rfl)) ?_; (with_reducible refine (varint_Take.calls k (t115 ++ a2) t116 t117 t118 _ A6.out).mono ?_); rintro e w12 ⟨rfl, hb⟩; refine ⟨_, rfl, ?_⟩; have n0_ := Aside0.mk (below_step (by repeat (first | (with_reducible first | exact HB.out | apply below_alloc | apply pw_below_drewN | apply below_drew1) | exact HB.out)) hb); clear HB; have HB := n0_; clear n0_; (try clear hb); (try clear hb2); (try clear hk); (try clear hi)) | ((with_reducible refine gate_callee (f := 14) rfl ?_); refine goesL_ (some 30) rfl rfl Try.func14 (by kernel_rfl) rfl #[.int .i64 a1] rfl (by (try simp only [List.map_toArray, List.map_cons, List.map_nil]); first | done | rfl | (simp only [List.length_drop, List.length_take]; rfl)) ?_; (with_reducible refine (varint_PutInt.calls k a1 t119 _ A7.out).mono ?_); rintro e w13 ⟨rfl, hb⟩; refine ⟨_, rfl, ?_⟩; have n0_ := Aside0.mk (below_step (by repeat (first | (with_reducible first | exact HB.out | apply below_alloc | apply pw_below_drewN | apply below_drew1) | exact HB.out)) hb); clear HB; have HB := n0_; clear n0_; (try clear hb); (try clear hb2); (try clear hk); (try clear hi)) | ((with_reducible refine gate_callee (f := 18) rfl ?_); refine goesL_ (some 33) rfl rfl Try.func18 (by kernel_rfl) rfl #[.string (t119 ++ a2)] rfl (by (try simp only [List.map_toArray, List.map_cons, List.map_nil]); first | done | rfl | (simp only [List.length_drop, List.length_take]; rfl)) ?_; (with_reducible refine (varint_TakeInt.calls k (t119 ++ a2) t120 t121 t122 _ A9.out).mono ?_); rintro e w14 ⟨rfl, hb⟩; refine ⟨_, rfl, ?_⟩; have n0_ := Aside0.mk (below_step (by repeat (first | (with_reducible first | exact HB.out | apply below_alloc | apply pw_below_drewN | apply below_drew1) | exact HB.out)) hb); clear HB; have HB := n0_; clear n0_; (try clear hb); (try clear hb2); (try clear hk); (try clear hi)))
      (try simp only [Act.put, List.setIfInBounds_toArray, List.set_cons_zero, List.set_cons_succ])
      go_cut [65] (fun v65 wc => ∃ (kq : Nat) (x65_9 : Bool), v65 = .bool x65_9 ∧ Aside0 (concourselaw01_VarintBack.j0 kq a0 a1 t115 x65_9 = some r) ∧ Aside0 (kq ≤ k) ∧ Aside0 (Below w.heap.size w wc))
      case first =>
        have H := HC10.out
        clear HC10
        by_cases c15 : t116 = a0
        · rw [if_pos c15] at H
          have c15b0 : (t116 == a0) = true := beq_iff_eq.mpr c15
          have c15b1 : (t116 != a0) = false := bne_eq_false_iff_eq.mpr c15
          clear c15
          (first | rw [c15b0] | (simp only [i64_w, i32_w]; rw [c15b0]) | skip)
          by_cases c16 : t117 = (t115.size : Int)
          · rw [if_pos c16] at H
            have c16b0 : (t117 == (t115.size : Int)) = true := beq_iff_eq.mpr c16
            have c16b1 : (t117 != (t115.size : Int)) = false := bne_eq_false_iff_eq.mpr c16
            clear c16
            by_cases c17 : t118 = 0
            · rw [if_pos c17] at H
              have c17b0 : (t118 == 0) = true := beq_iff_eq.mpr c17
              have c17b1 : (t118 != 0) = false := bne_eq_false_iff_eq.mpr c17
              clear c17
              by_cases c18 : t120 = a1
              · rw [if_pos c18] at H
                have c18b0 : (t120 == a1) = true := beq_iff_eq.mpr c18
                have c18b1 : (t120 != a1) = false := bne_eq_false_iff_eq.mpr c18
                clear c18
                replace H := Option.bind_eq_some_iff.mp H
                obtain ⟨t123, A190, H⟩ := H
                obtain rfl : t119 = t123 := Option.some.inj (A7.out.symm.trans A190)
                replace H : (if t121 = (t119.size : Int) then (concourselaw01_VarintBack.j0 k a0 a1 t115 (t122 != 0)) else (concourselaw01_VarintBack.j0 k a0 a1 t115 true)) = some r := H
                have A19 := Aside0.mk A190
                clear A190
                by_cases c20 : t121 = (t119.size : Int)
                · rw [if_pos c20] at H
                  have c20b0 : (t121 == (t119.size : Int)) = true := beq_iff_eq.mpr c20
                  have c20b1 : (t121 != (t119.size : Int)) = false := bne_eq_false_iff_eq.mpr c20
                  clear c20
                  have H' := Aside0.mk H
                  clear H
                  go_wp2_with (first | (go_at_call 14; (with_reducible refine (varint_PutInt.calls k a1 t119 _ A19.out).mono ?_); rintro e w21 ⟨rfl, hb⟩; have n0_ := Aside0.mk (below_step (by repeat (first | (with_reducible first | exact HB.out | apply below_alloc | apply pw_below_drewN | apply below_drew1) | exact HB.out)) hb); clear HB; have HB := n0_; clear n0_; (try clear hb); (try clear hb2); (try clear hk); (try clear hi)))
                  go_meet
                  case rel => exact ⟨_, ((t122 != 0)), (by first | rfl | (simp; done) | (simp [*]; done)), H', ⟨by first | omega | exact Nat.le_refl _⟩, ⟨by repeat (first | (with_reducible first | exact HB.out | apply below_alloc | apply pw_below_drewN | apply below_drew1) | exact HB.out)⟩⟩
                · rw [if_neg c20] at H
                  have c20b0 : (t121 == (t119.size : Int)) = false := beq_eq_false_iff_ne.mpr c20
                  have c20b1 : (t121 != (t119.size : Int)) = true := bne_iff_ne.mpr c20
                  have H' := Aside0.mk H
                  clear H
                  go_wp2_with (first | (go_at_call 14; (with_reducible refine (varint_PutInt.calls k a1 t119 _ A19.out).mono ?_); rintro e w22 ⟨rfl, hb⟩; have n0_ := Aside0.mk (below_step (by repeat (first | (with_reducible first | exact HB.out | apply below_alloc | apply pw_below_drewN | apply below_drew1) | exact HB.out)) hb); clear HB; have HB := n0_; clear n0_; (try clear hb); (try clear hb2); (try clear hk); (try clear hi)))
                  go_meet
                  case rel => exact ⟨_, (true), (by first | rfl | (simp; done) | (simp [*]; done)), H', ⟨by first | omega | exact Nat.le_refl _⟩, ⟨by repeat (first | (with_reducible first | exact HB.out | apply below_alloc | apply pw_below_drewN | apply below_drew1) | exact HB.out)⟩⟩
              · rw [if_neg c18] at H
                have c18b0 : (t120 == a1) = false := beq_eq_false_iff_ne.mpr c18
                have c18b1 : (t120 != a1) = true := bne_iff_ne.mpr c18
                have H' := Aside0.mk H
                clear H
                go_wp2
                go_meet
                case rel => exact ⟨_, (true), (by first | rfl | (simp; done) | (simp [*]; done)), H', ⟨by first | omega | exact Nat.le_refl _⟩, ⟨by repeat (first | (with_reducible first | exact HB.out | apply below_alloc | apply pw_below_drewN | apply below_drew1) | exact HB.out)⟩⟩
            · rw [if_neg c17] at H
              have c17b0 : (t118 == 0) = false := beq_eq_false_iff_ne.mpr c17
              have c17b1 : (t118 != 0) = true := bne_iff_ne.mpr c17
              have H' := Aside0.mk H
              clear H
              go_wp2
              go_meet
              case rel => exact ⟨_, (true), (by first | rfl | (simp; done) | (simp [*]; done)), H', ⟨by first | omega | exact Nat.le_refl _⟩, ⟨by repeat (first | (with_reducible first | exact HB.out | apply below_alloc | apply pw_below_drewN | apply below_drew1) | exact HB.out)⟩⟩
          · rw [if_neg c16] at H
            have c16b0 : (t117 == (t115.size : Int)) = false := beq_eq_false_iff_ne.mpr c16
            have c16b1 : (t117 != (t115.size : Int)) = true := bne_iff_ne.mpr c16
            have H' := Aside0.mk H
            clear H
            go_wp2
            go_meet
            case rel => exact ⟨_, (true), (by first | rfl | (simp; done) | (simp [*]; done)), H', ⟨by first | omega | exact Nat.le_refl _⟩, ⟨by repeat (first | (with_reducible first | exact HB.out | apply below_alloc | apply pw_below_drewN | apply below_drew1) | exact HB.out)⟩⟩
        · rw [if_neg c15] at H
          have c15b0 : (t116 == a0) = false := beq_eq_false_iff_ne.mpr c15
          have c15b1 : (t116 != a0) = true := bne_iff_ne.mpr c15
          (first | rw [c15b0] | (simp only [i64_w, i32_w]; rw [c15b0]) | skip)
          have H' := Aside0.mk H
          clear H
          go_wp2
          go_meet
          case rel => exact ⟨_, (true), (by first | rfl | (simp; done) | (simp [*]; done)), H', ⟨by first | omega | exact Nat.le_refl _⟩, ⟨by repeat (first | (with_reducible first | exact HB.out | apply below_alloc | apply pw_below_drewN | apply below_drew1) | exact HB.out)⟩⟩
      case rest =>
        clear HC10
        try clear c1
        try clear c2
        try clear p2
        try clear c5
        try clear c5b0
        try clear c5b1
        try clear c5b2
        try clear c8
        try clear c8b0
        try clear c8b1
        try clear c8b2
        try clear c14
        try clear c15
        try clear c15b0
        try clear c15b1
        try clear c16
        try clear c16b0
        try clear c16b1
        try clear c17
        try clear c17b0
        try clear c17b1
        try clear c18
        try clear c18b0
        try clear c18b1
        try clear c20
        try clear c20b0
        try clear c20b1
        obtain ⟨kq, x65_9, rfl, HA, HJ9, HB⟩ := hcut
        cases kq with
        | zero => exact absurd HA.out (by simp [concourselaw01_VarintBack.j0])
        | succ kj9 =>
          have H := HA.out
          clear HA
          simp only [concourselaw01_VarintBack.j0] at H
          by_cases c23 : x65_9 = true
          · subst c23
            have H1 : (some false) = some r := by rw [if_pos rfl] at H; exact H
            clear H
            have H := H1
            clear H1
            obtain rfl := Option.some.inj H
            go_wp2
            go_ret
            exact ⟨by first | rfl | (simp [errW_none, errW_some] <;> rfl) | (simp [*, errW_none, errW_some] <;> rfl), by repeat (first | (with_reducible first | exact HB.out | apply below_alloc | apply pw_below_drewN | apply below_drew1) | exact HB.out)⟩
          · replace c23 := Bool.eq_false_iff.mpr c23
            subst c23
            have H1 : (concourselaw01_VarintBack.l0 kj9 a0 a1 t115 0) = some r := by rw [if_neg (show ¬ (false = true) by decide)] at H; exact H
            clear H
            have H := H1
            clear H1
            have H' := Aside0.mk H
            clear H
            go_wp2
            go_loopg [14] kj9 (fun kq v14 w' => ∃ (x14_2 : Int), v14 = .int .i64 x14_2 ∧ Aside0 (concourselaw01_VarintBack.l0 kq a0 a1 t115 x14_2 = some r) ∧ Aside0 (kq ≤ kj9) ∧ Aside0 (Below w.heap.size w w'))
            case atStart => exact ⟨(0), (by first | rfl | (simp; done) | (simp [*]; done)), H', ⟨Nat.le_refl _⟩, ⟨by repeat (first | (with_reducible first | exact HB.out | apply below_alloc | apply pw_below_drewN | apply below_drew1) | exact HB.out)⟩⟩
            case round =>
              clear H'
              try clear c1
              try clear c2
              try clear p2
              try clear c5
              try clear c5b0
              try clear c5b1
              try clear c5b2
              try clear c8
              try clear c8b0
              try clear c8b1
              try clear c8b2
              try clear c14
              try clear c15
              try clear c15b0
              try clear c15b1
              try clear c16
              try clear c16b0
              try clear c16b1
              try clear c17
              try clear c17b0
              try clear c17b1
              try clear c18
              try clear c18b0
              try clear c18b1
              try clear c20
              try clear c20b0
              try clear c20b1
              try clear c23
              try clear p2
              obtain ⟨x14_2, rfl, HA, HK2, HB⟩ := hrel
              cases gk with
              | zero => exact absurd HA.out (by simp [concourselaw01_VarintBack.l0])
              | succ k2 =>
                have H := HA.out
                clear HA
                simp only [concourselaw01_VarintBack.l0] at H
                by_cases c24 : x14_2 < (t115.size : Int)
                · rw [if_pos c24] at H
                  have c24b0 : decide (x14_2 < (t115.size : Int)) = true := decide_eq_true c24
                  clear c24
                  by_cases c25 : 0 ≤ x14_2
                  · rw [if_pos c25] at H
                    have c25b0 := eq_true c25
                    have c25b1 : decide (0 ≤ x14_2) = true := decide_eq_true c25
                    clear c25
                    by_cases c26 : x14_2 ≤ (t115.size : Int)
                    · rw [if_pos c26] at H
                      have c26b0 := eq_true c26
                      have c26b1 : decide (x14_2 ≤ (t115.size : Int)) = true := decide_eq_true c26
                      clear c26
                      replace H := Option.bind_eq_some_iff.mp H
                      obtain ⟨⟨t124, t125, t126⟩, A270, H⟩ := H
                      replace H : (if t126 = 2 then (concourselaw01_VarintBack.l0 k2 a0 a1 t115 (wrap64 (x14_2 + 1))) else (some false)) = some r := H
                      have A27 := Aside0.mk A270
                      clear A270
                      by_cases c28 : t126 = 2
                      · rw [if_pos c28] at H
                        have c28b0 : (t126 == 2) = true := beq_iff_eq.mpr c28
                        have c28b1 : (t126 != 2) = false := bne_eq_false_iff_eq.mpr c28
                        clear c28
                        have H' := Aside0.mk H
                        clear H
                        go_wp2_with (first | ((with_reducible refine gate_callee (f := 16) rfl ?_); refine goesL_ (some 76) rfl rfl Try.func16 (by kernel_rfl) rfl #[.string (t115.extract 0 (x14_2 : Int).toNat)] rfl (by (try simp only [List.map_toArray, List.map_cons, List.map_nil]); first | done | rfl | (simp only [List.length_drop, List.length_take]; rfl)) ?_; (with_reducible refine (varint_Take.calls k2 (t115.extract 0 (x14_2 : Int).toNat) t124 t125 t126 _ A27.out).mono ?_); rintro e w29 ⟨rfl, hb⟩; refine ⟨_, rfl, ?_⟩; have n0_ := Aside0.mk (below_step (by repeat (first | (with_reducible first | exact HB.out | apply below_alloc | apply pw_below_drewN | apply below_drew1) | exact HB.out)) hb); clear HB; have HB := n0_; clear n0_; (try clear hb); (try clear hb2); (try clear hk); (try clear hi)))
                        go_roundg k2
                        case measure => have := HJ9.out; have := HK2.out; omega
                        case rel => exact ⟨(wrap64 (x14_2 + 1)), (by first | rfl | (simp; done) | (simp [*]; done)), H', ⟨by have := HJ9.out; have := HK2.out; omega⟩, ⟨by repeat (first | (with_reducible first | exact HB.out | apply below_alloc | apply pw_below_drewN | apply below_drew1) | exact HB.out)⟩⟩
                      · rw [if_neg c28] at H
                        have c28b0 : (t126 == 2) = false := beq_eq_false_iff_ne.mpr c28
                        have c28b1 : (t126 != 2) = true := bne_iff_ne.mpr c28
                        obtain rfl := Option.some.inj H
                        go_wp2_with (first | ((with_reducible refine gate_callee (f := 16) rfl ?_); refine goesL_ (some 76) rfl rfl Try.func16 (by kernel_rfl) rfl #[.string (t115.extract 0 (x14_2 : Int).toNat)] rfl (by (try simp only [List.map_toArray, List.map_cons, List.map_nil]); first | done | rfl | (simp only [List.length_drop, List.length_take]; rfl)) ?_; (with_reducible refine (varint_Take.calls k2 (t115.extract 0 (x14_2 : Int).toNat) t124 t125 t126 _ A27.out).mono ?_); rintro e w30 ⟨rfl, hb⟩; refine ⟨_, rfl, ?_⟩; have n0_ := Aside0.mk (below_step (by repeat (first | (with_reducible first | exact HB.out | apply below_alloc | apply pw_below_drewN | apply below_drew1) | exact HB.out)) hb); clear HB; have HB := n0_; clear n0_; (try clear hb); (try clear hb2); (try clear hk); (try clear hi)))
                        go_ret
                        exact ⟨by first | rfl | (simp [errW_none, errW_some] <;> rfl) | (simp [*, errW_none, errW_some] <;> rfl), by repeat (first | (with_reducible first | exact HB.out | apply below_alloc | apply pw_below_drewN | apply below_drew1) | exact HB.out)⟩
                    · rw [if_neg c26] at H
                      exact absurd H (by simp)
                  · rw [if_neg c25] at H
                    exact absurd H (by simp)
                · rw [if_neg c24] at H
                  have c24b0 : decide (x14_2 < (t115.size : Int)) = false := decide_eq_false c24
                  clear c24
                  replace H := Option.bind_eq_some_iff.mp H
                  obtain ⟨t127, A310, H⟩ := H
                  replace H : ((varint_Back.f t127).bind fun t128 => (if t128 = a1 then ((varint_Back.f a0).bind fun t129 => ((varint_Turn.f t129).bind fun t130 => (if t130 = a0 then ((concourselaw01_awake.f k2).bind fun t131 => (some t131)) else (some false)))) else (some false))) = some r := H
                  have A31 := Aside0.mk A310
                  clear A310
                  replace H := Option.bind_eq_some_iff.mp H
                  obtain ⟨t128, A320, H⟩ := H
                  replace H : (if t128 = a1 then ((varint_Back.f a0).bind fun t129 => ((varint_Turn.f t129).bind fun t130 => (if t130 = a0 then ((concourselaw01_awake.f k2).bind fun t131 => (some t131)) else (some false)))) else (some false)) = some r := H
                  have A32 := Aside0.mk A320
                  clear A320
                  by_cases c33 : t128 = a1
                  · rw [if_pos c33] at H
                    have c33b0 : (t128 == a1) = true := beq_iff_eq.mpr c33
                    have c33b1 : (t128 != a1) = false := bne_eq_false_iff_eq.mpr c33
                    clear c33
                    replace H := Option.bind_eq_some_iff.mp H
                    obtain ⟨t129, A340, H⟩ := H
                    replace H : ((varint_Turn.f t129).bind fun t130 => (if t130 = a0 then ((concourselaw01_awake.f k2).bind fun t131 => (some t131)) else (some false))) = some r := H
                    have A34 := Aside0.mk A340
                    clear A340
                    replace H := Option.bind_eq_some_iff.mp H
                    obtain ⟨t130, A350, H⟩ := H
                    replace H : (if t130 = a0 then ((concourselaw01_awake.f k2).bind fun t131 => (some t131)) else (some false)) = some r := H
                    have A35 := Aside0.mk A350
                    clear A350
                    by_cases c36 : t130 = a0
                    · rw [if_pos c36] at H
                      have c36b0 : (t130 == a0) = true := beq_iff_eq.mpr c36
                      have c36b1 : (t130 != a0) = false := bne_eq_false_iff_eq.mpr c36
                      clear c36
                      replace H := Option.bind_eq_some_iff.mp H
                      obtain ⟨t131, A370, H⟩ := H
                      replace H : (some t131) = some r := H
                      have A37 := Aside0.mk A370
                      clear A370
                      obtain rfl := Option.some.inj H
                      go_wp2_with (first | ((with_reducible refine gate_callee (f := 10) rfl ?_); refine goesL_ (some 83) rfl rfl Try.func10 (by kernel_rfl) rfl #[.int .i64 a1] rfl (by (try simp only [List.map_toArray, List.map_cons, List.map_nil]); first | done | rfl | (simp only [List.length_drop, List.length_take]; rfl)) ?_; (with_reducible refine (varint_Turn.calls a1 t127 _ A31.out).mono ?_); rintro e w' ⟨rfl, ⟨nd, rfl⟩⟩; refine ⟨_, rfl, ?_⟩) | ((with_reducible refine gate_callee (f := 12) rfl ?_); refine goesL_ (some 84) rfl rfl Try.func12 (by kernel_rfl) rfl #[.int .u64 t127] rfl (by (try simp only [List.map_toArray, List.map_cons, List.map_nil]); first | done | rfl | (simp only [List.length_drop, List.length_take]; rfl)) ?_; (with_reducible refine (varint_Back.calls t127 t128 _ A32.out).mono ?_); rintro e w' ⟨rfl, ⟨nd, rfl⟩⟩; refine ⟨_, rfl, ?_⟩) | (go_at_call 12; (with_reducible refine (varint_Back.calls a0 t129 _ A34.out).mono ?_); rintro e w' ⟨rfl, ⟨nd, rfl⟩⟩) | (go_at_call 10; (with_reducible refine (varint_Turn.calls t129 t130 _ A35.out).mono ?_); rintro e w' ⟨rfl, ⟨nd, rfl⟩⟩) | (go_at_call 15; (with_reducible refine (concourselaw01_awake.calls k2  t131 _ A37.out).mono ?_); rintro e w38 ⟨rfl, hb⟩; have n0_ := Aside0.mk (below_step (by repeat (first | (with_reducible first | exact HB.out | apply below_alloc | apply pw_below_drewN | apply below_drew1) | exact HB.out)) hb); clear HB; have HB := n0_; clear n0_; (try clear hb); (try clear hb2); (try clear hk); (try clear hi)))
                      go_ret
                      exact ⟨by first | rfl | (simp [errW_none, errW_some] <;> rfl) | (simp [*, errW_none, errW_some] <;> rfl), by repeat (first | (with_reducible first | exact HB.out | apply below_alloc | apply pw_below_drewN | apply below_drew1) | exact HB.out)⟩
                    · rw [if_neg c36] at H
                      have c36b0 : (t130 == a0) = false := beq_eq_false_iff_ne.mpr c36
                      have c36b1 : (t130 != a0) = true := bne_iff_ne.mpr c36
                      obtain rfl := Option.some.inj H
                      go_wp2_with (first | ((with_reducible refine gate_callee (f := 10) rfl ?_); refine goesL_ (some 83) rfl rfl Try.func10 (by kernel_rfl) rfl #[.int .i64 a1] rfl (by (try simp only [List.map_toArray, List.map_cons, List.map_nil]); first | done | rfl | (simp only [List.length_drop, List.length_take]; rfl)) ?_; (with_reducible refine (varint_Turn.calls a1 t127 _ A31.out).mono ?_); rintro e w' ⟨rfl, ⟨nd, rfl⟩⟩; refine ⟨_, rfl, ?_⟩) | ((with_reducible refine gate_callee (f := 12) rfl ?_); refine goesL_ (some 84) rfl rfl Try.func12 (by kernel_rfl) rfl #[.int .u64 t127] rfl (by (try simp only [List.map_toArray, List.map_cons, List.map_nil]); first | done | rfl | (simp only [List.length_drop, List.length_take]; rfl)) ?_; (with_reducible refine (varint_Back.calls t127 t128 _ A32.out).mono ?_); rintro e w' ⟨rfl, ⟨nd, rfl⟩⟩; refine ⟨_, rfl, ?_⟩) | (go_at_call 12; (with_reducible refine (varint_Back.calls a0 t129 _ A34.out).mono ?_); rintro e w' ⟨rfl, ⟨nd, rfl⟩⟩) | (go_at_call 10; (with_reducible refine (varint_Turn.calls t129 t130 _ A35.out).mono ?_); rintro e w' ⟨rfl, ⟨nd, rfl⟩⟩))
                      go_ret
                      exact ⟨by first | rfl | (simp [errW_none, errW_some] <;> rfl) | (simp [*, errW_none, errW_some] <;> rfl), by repeat (first | (with_reducible first | exact HB.out | apply below_alloc | apply pw_below_drewN | apply below_drew1) | exact HB.out)⟩
                  · rw [if_neg c33] at H
                    have c33b0 : (t128 == a1) = false := beq_eq_false_iff_ne.mpr c33
                    have c33b1 : (t128 != a1) = true := bne_iff_ne.mpr c33
                    obtain rfl := Option.some.inj H
                    go_wp2_with (first | ((with_reducible refine gate_callee (f := 10) rfl ?_); refine goesL_ (some 83) rfl rfl Try.func10 (by kernel_rfl) rfl #[.int .i64 a1] rfl (by (try simp only [List.map_toArray, List.map_cons, List.map_nil]); first | done | rfl | (simp only [List.length_drop, List.length_take]; rfl)) ?_; (with_reducible refine (varint_Turn.calls a1 t127 _ A31.out).mono ?_); rintro e w' ⟨rfl, ⟨nd, rfl⟩⟩; refine ⟨_, rfl, ?_⟩) | ((with_reducible refine gate_callee (f := 12) rfl ?_); refine goesL_ (some 84) rfl rfl Try.func12 (by kernel_rfl) rfl #[.int .u64 t127] rfl (by (try simp only [List.map_toArray, List.map_cons, List.map_nil]); first | done | rfl | (simp only [List.length_drop, List.length_take]; rfl)) ?_; (with_reducible refine (varint_Back.calls t127 t128 _ A32.out).mono ?_); rintro e w' ⟨rfl, ⟨nd, rfl⟩⟩; refine ⟨_, rfl, ?_⟩))
                    go_ret
                    exact ⟨by first | rfl | (simp [errW_none, errW_some] <;> rfl) | (simp [*, errW_none, errW_some] <;> rfl), by repeat (first | (with_reducible first | exact HB.out | apply below_alloc | apply pw_below_drewN | apply below_drew1) | exact HB.out)⟩
    · rw [if_neg c8] at H
      exact absurd H (by simp)
  · rw [if_neg c5] at H
    exact absurd H (by simp)

/-- THE ONE PURE STATEMENT of concourselaw01_VarintBack: yours. -/
def concourselaw01_VarintBack.Pure : Prop := ∀ (a0 : Int) (a1 : Int) (a2 : ByteArray), (Lit.int .u64 a0).wf = true → (Lit.int .i64 a1).wf = true → a2.size ≤ 140737488351232 → ∃ k, concourselaw01_VarintBack.f k a0 a1 a2 = some true
theorem concourselaw01_VarintBack.walk (P : concourselaw01_VarintBack.Pure) (a0 : Int) (a1 : Int) (a2 : ByteArray) (w : World) (w0 : (Lit.int .u64 a0).wf = true) (w1 : (Lit.int .i64 a1).wf = true) (w2 : a2.size ≤ 140737488351232) :
    Calls Try.prog 5 #[.int .u64 a0, .int .i64 a1, .string a2] w fun e w' => e = .returned (.bool true) ∧ Below w.heap.size w w' := by
  obtain ⟨k, h⟩ := P a0 a1 a2 w0 w1 w2
  refine (concourselaw01_VarintBack.calls k a0 a1 a2 true w h).mono ?_
  rintro e w' ⟨rfl, hd⟩
  exact ⟨rfl, hd⟩

end Go.Proofs.Ytpdlbdmcoghohaa.PVarintBack
