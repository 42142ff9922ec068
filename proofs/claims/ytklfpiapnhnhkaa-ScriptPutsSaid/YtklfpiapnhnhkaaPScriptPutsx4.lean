-- written by a program of this claim's session, a turned copy of the print (it also takes a label): Lean checks it
import Derived.Test.YtklfpiapnhnhkaaPScriptPutsx0
import Derived.Test.YtklfpiapnhnhkaaPScriptPutsx3
namespace Go.Proofs.Ytklfpiapnhnhkaa.PScriptPuts
open Go.RowKit Go.Proofs.YtklfpiapnhnhkaaW.PrintWords Go.Proofs.YtklfpiapnhnhkaaW.PrintLast Go.Proofs.YtklfpiapnhnhkaaW.PrintMore
attribute [local go_sem] max2_int min2_int max_two min_two max_three min_three max_four min_four   -- for this text's walks alone
set_option linter.unusedVariables false
set_option linter.unusedSimpArgs false

/-! ### concourseref43_Put: function 10 -/
mutual
def concourseref43_Put.l0 : Nat → List (S24) → ByteArray → Int → Option (ByteArray × Int)
  | 0, _, _, _ => none
  | k + 1, x0, x4, x5 => if x5 < (x0.length : Int) then (if 0 ≤ x5 then (if ((rd_T24 x0 x5).f0) < 1 then (concourseref43_Put.j1 k x0 x4 x5 true ((rd_T24 x0 x5).f0) ((rd_T24 x0 x5).f1) ((rd_T24 x0 x5).f2) ((rd_T24 x0 x5).f3)) else (concourseref43_Put.j1 k x0 x4 x5 (decide (((rd_T24 x0 x5).f0) > 7)) ((rd_T24 x0 x5).f0) ((rd_T24 x0 x5).f1) ((rd_T24 x0 x5).f2) ((rd_T24 x0 x5).f3))) else (none)) else (some (x4, 0))
def concourseref43_Put.j1 : Nat → List (S24) → ByteArray → Int → Bool → Int → Int → Int → ByteArray → Option (ByteArray × Int)
  | 0, _, _, _, _, _, _, _, _ => none
  | k + 1, x0, x4, x5, x30, x140000, x140001, x140002, x140003 => if x30 = true then (some ((⟨#[]⟩ : ByteArray), 4)) else ((concourseref43_has.f x140000).bind fun bt140 => (if bt140.1 = true then (if x140001 < 0 then (concourseref43_Put.j2 k x0 x4 x5 bt140.1 bt140.2.1 bt140.2.2 true x140000 x140001 x140002 x140003) else (if x140001 > 15 then (concourseref43_Put.j2 k x0 x4 x5 bt140.1 bt140.2.1 bt140.2.2 true x140000 x140001 x140002 x140003) else (if bt140.2.2 = true then (concourseref43_Put.j2 k x0 x4 x5 bt140.1 bt140.2.1 bt140.2.2 (decide ((x140003.size : Int) > 1048576)) x140000 x140001 x140002 x140003) else (concourseref43_Put.j2 k x0 x4 x5 bt140.1 bt140.2.1 bt140.2.2 false x140000 x140001 x140002 x140003)))) else (if bt140.2.2 = true then (concourseref43_Put.j2 k x0 x4 x5 bt140.1 bt140.2.1 bt140.2.2 (decide ((x140003.size : Int) > 1048576)) x140000 x140001 x140002 x140003) else (concourseref43_Put.j2 k x0 x4 x5 bt140.1 bt140.2.1 bt140.2.2 false x140000 x140001 x140002 x140003))))
def concourseref43_Put.j2 : Nat → List (S24) → ByteArray → Int → Bool → Bool → Bool → Bool → Int → Int → Int → ByteArray → Option (ByteArray × Int)
  | 0, _, _, _, _, _, _, _, _, _, _, _ => none
  | k + 1, x0, x4, x5, x7, x8, x9, x57, x140000, x140001, x140002, x140003 => if x57 = true then (some ((⟨#[]⟩ : ByteArray), 1)) else ((concourseref01_Byte.f x140000).bind fun t143 => (if x4.size + t143.size ≤ 9223372036854775807 then (if x8 = true then ((concourseref01_Put.f k x140002).bind fun t144 => (if (x4 ++ t143).size + t144.size ≤ 9223372036854775807 then (concourseref43_Put.j3 k x0 ((x4 ++ t143) ++ t144) x5 x7 x9 x140000 x140001 x140002 x140003) else (none))) else (concourseref43_Put.j3 k x0 (x4 ++ t143) x5 x7 x9 x140000 x140001 x140002 x140003)) else (none)))
def concourseref43_Put.j3 : Nat → List (S24) → ByteArray → Int → Bool → Bool → Int → Int → Int → ByteArray → Option (ByteArray × Int)
  | 0, _, _, _, _, _, _, _, _, _ => none
  | k + 1, x0, x4, x5, x7, x9, x140000, x140001, x140002, x140003 => if x7 = true then ((concourseref01_Byte.f x140001).bind fun t145 => (if x4.size + t145.size ≤ 9223372036854775807 then (if x9 = true then ((concourseref02_Put.f k x140003).bind fun t146 => (if (x4 ++ t145).size + t146.size ≤ 9223372036854775807 then (concourseref43_Put.l0 k x0 ((x4 ++ t145) ++ t146) (wrap64 (x5 + 1))) else (none))) else (concourseref43_Put.l0 k x0 (x4 ++ t145) (wrap64 (x5 + 1)))) else (none))) else (if x9 = true then ((concourseref02_Put.f k x140003).bind fun t147 => (if x4.size + t147.size ≤ 9223372036854775807 then (concourseref43_Put.l0 k x0 (x4 ++ t147) (wrap64 (x5 + 1))) else (none))) else (concourseref43_Put.l0 k x0 x4 (wrap64 (x5 + 1))))
end
def concourseref43_Put.f (k : Nat) (l0 : List (S24)) : Option (ByteArray × Int) := if (l0.length : Int) > 1024 then (some ((⟨#[]⟩ : ByteArray), 3)) else (concourseref43_Put.l0 k l0 (⟨#[]⟩ : ByteArray) 0)
theorem concourseref43_Put.mono_l : ∀ k, (∀ y0 y1 y2, LeO (concourseref43_Put.l0 k y0 y1 y2) (concourseref43_Put.l0 (k + 1) y0 y1 y2)) ∧ (∀ y0 y1 y2 y3 y4 y5 y6 y7, LeO (concourseref43_Put.j1 k y0 y1 y2 y3 y4 y5 y6 y7) (concourseref43_Put.j1 (k + 1) y0 y1 y2 y3 y4 y5 y6 y7)) ∧ (∀ y0 y1 y2 y3 y4 y5 y6 y7 y8 y9 y10, LeO (concourseref43_Put.j2 k y0 y1 y2 y3 y4 y5 y6 y7 y8 y9 y10) (concourseref43_Put.j2 (k + 1) y0 y1 y2 y3 y4 y5 y6 y7 y8 y9 y10)) ∧ (∀ y0 y1 y2 y3 y4 y5 y6 y7 y8, LeO (concourseref43_Put.j3 k y0 y1 y2 y3 y4 y5 y6 y7 y8) (concourseref43_Put.j3 (k + 1) y0 y1 y2 y3 y4 y5 y6 y7 y8))
  | 0 => ⟨fun _ _ _ r h => by simp [concourseref43_Put.l0] at h, fun _ _ _ _ _ _ _ _ r h => by simp [concourseref43_Put.j1] at h, fun _ _ _ _ _ _ _ _ _ _ _ r h => by simp [concourseref43_Put.j2] at h, fun _ _ _ _ _ _ _ _ _ r h => by simp [concourseref43_Put.j3] at h⟩
  | k + 1 => by
    obtain ⟨ih0, ih1, ih2, ih3⟩ := concourseref43_Put.mono_l k
    refine ⟨?_, ?_, ?_, ?_⟩
    · intro y0 y1 y2
      unfold concourseref43_Put.l0
      repeat' first
      | (with_reducible exact ih0 _ _ _)
      | (with_reducible exact ih1 _ _ _ _ _ _ _ _)
      | (with_reducible exact ih2 _ _ _ _ _ _ _ _ _ _ _)
      | (with_reducible exact ih3 _ _ _ _ _ _ _ _ _)
      | (with_reducible exact concourseref01_Put.mono _ _)
      | (with_reducible exact concourseref02_Put.mono _ _)
      | (with_reducible exact LeO.refl _)
      | (with_reducible exact LeO.none _)
      | (with_reducible refine LeO.ite ?_ ?_)
      | (with_reducible refine LeO.bind ?_ (fun _ => ?_))
      | exact ih0 _ _ _
      | exact ih1 _ _ _ _ _ _ _ _
      | exact ih2 _ _ _ _ _ _ _ _ _ _ _
      | exact ih3 _ _ _ _ _ _ _ _ _
      | exact concourseref01_Put.mono _ _
      | exact concourseref02_Put.mono _ _
      | exact LeO.none _
      | refine LeO.ite ?_ ?_
      | refine LeO.bind ?_ (fun _ => ?_)
    · intro y0 y1 y2 y3 y4 y5 y6 y7
      unfold concourseref43_Put.j1
      repeat' first
      | (with_reducible exact ih0 _ _ _)
      | (with_reducible exact ih1 _ _ _ _ _ _ _ _)
      | (with_reducible exact ih2 _ _ _ _ _ _ _ _ _ _ _)
      | (with_reducible exact ih3 _ _ _ _ _ _ _ _ _)
      | (with_reducible exact concourseref01_Put.mono _ _)
      | (with_reducible exact concourseref02_Put.mono _ _)
      | (with_reducible exact LeO.refl _)
      | (with_reducible exact LeO.none _)
      | (with_reducible refine LeO.ite ?_ ?_)
      | (with_reducible refine LeO.bind ?_ (fun _ => ?_))
      | exact ih0 _ _ _
      | exact ih1 _ _ _ _ _ _ _ _
      | exact ih2 _ _ _ _ _ _ _ _ _ _ _
      | exact ih3 _ _ _ _ _ _ _ _ _
      | exact concourseref01_Put.mono _ _
      | exact concourseref02_Put.mono _ _
      | exact LeO.none _
      | refine LeO.ite ?_ ?_
      | refine LeO.bind ?_ (fun _ => ?_)
    · intro y0 y1 y2 y3 y4 y5 y6 y7 y8 y9 y10
      unfold concourseref43_Put.j2
      repeat' first
      | (with_reducible exact ih0 _ _ _)
      | (with_reducible exact ih1 _ _ _ _ _ _ _ _)
      | (with_reducible exact ih2 _ _ _ _ _ _ _ _ _ _ _)
      | (with_reducible exact ih3 _ _ _ _ _ _ _ _ _)
      | (with_reducible exact concourseref01_Put.mono _ _)
      | (with_reducible exact concourseref02_Put.mono _ _)
      | (with_reducible exact LeO.refl _)
      | (with_reducible exact LeO.none _)
      | (with_reducible refine LeO.ite ?_ ?_)
      | (with_reducible refine LeO.bind ?_ (fun _ => ?_))
      | exact ih0 _ _ _
      | exact ih1 _ _ _ _ _ _ _ _
      | exact ih2 _ _ _ _ _ _ _ _ _ _ _
      | exact ih3 _ _ _ _ _ _ _ _ _
      | exact concourseref01_Put.mono _ _
      | exact concourseref02_Put.mono _ _
      | exact LeO.none _
      | refine LeO.ite ?_ ?_
      | refine LeO.bind ?_ (fun _ => ?_)
    · intro y0 y1 y2 y3 y4 y5 y6 y7 y8
      unfold concourseref43_Put.j3
      repeat' first
      | (with_reducible exact ih0 _ _ _)
      | (with_reducible exact ih1 _ _ _ _ _ _ _ _)
      | (with_reducible exact ih2 _ _ _ _ _ _ _ _ _ _ _)
      | (with_reducible exact ih3 _ _ _ _ _ _ _ _ _)
      | (with_reducible exact concourseref01_Put.mono _ _)
      | (with_reducible exact concourseref02_Put.mono _ _)
      | (with_reducible exact LeO.refl _)
      | (with_reducible exact LeO.none _)
      | (with_reducible refine LeO.ite ?_ ?_)
      | (with_reducible refine LeO.bind ?_ (fun _ => ?_))
      | exact ih0 _ _ _
      | exact ih1 _ _ _ _ _ _ _ _
      | exact ih2 _ _ _ _ _ _ _ _ _ _ _
      | exact ih3 _ _ _ _ _ _ _ _ _
      | exact concourseref01_Put.mono _ _
      | exact concourseref02_Put.mono _ _
      | exact LeO.none _
      | refine LeO.ite ?_ ?_
      | refine LeO.bind ?_ (fun _ => ?_)
theorem concourseref43_Put.mono : ∀ a0 k, LeO (concourseref43_Put.f k a0) (concourseref43_Put.f (k + 1) a0) := by
  intro a0 k
  obtain ⟨ih0, ih1, ih2, ih3⟩ := concourseref43_Put.mono_l k
  unfold concourseref43_Put.f
  repeat' first
      | (with_reducible exact ih0 _ _ _)
      | (with_reducible exact ih1 _ _ _ _ _ _ _ _)
      | (with_reducible exact ih2 _ _ _ _ _ _ _ _ _ _ _)
      | (with_reducible exact ih3 _ _ _ _ _ _ _ _ _)
      | (with_reducible exact concourseref01_Put.mono _ _)
      | (with_reducible exact concourseref02_Put.mono _ _)
      | (with_reducible exact LeO.refl _)
      | (with_reducible exact LeO.none _)
      | (with_reducible refine LeO.ite ?_ ?_)
      | (with_reducible refine LeO.bind ?_ (fun _ => ?_))
      | exact ih0 _ _ _
      | exact ih1 _ _ _ _ _ _ _ _
      | exact ih2 _ _ _ _ _ _ _ _ _ _ _
      | exact ih3 _ _ _ _ _ _ _ _ _
      | exact concourseref01_Put.mono _ _
      | exact concourseref02_Put.mono _ _
      | exact LeO.none _
      | refine LeO.ite ?_ ?_
      | refine LeO.bind ?_ (fun _ => ?_)
set_option maxHeartbeats 8000000 in
set_option maxRecDepth 100000 in
theorem concourseref43_Put.calls (k : Nat) (A0 : Option Addr) (c0 : Nat) (l0 : List (S24)) (r1 : ByteArray) (r2 : Int) (w : World) (hr0 : Kd.C k24 w A0 l0.length l0) (hc0 : l0.length ≤ c0) (h : concourseref43_Put.f k l0 = some (r1, r2)) :
    Calls Try.prog 10 #[.slice A0 l0.length c0] w fun e w' => e = .returned (.tuple #[.string r1, .int .i64 r2]) ∧ Below w.heap.size w w' := by
  have hu24 := Try.underlying24
  have HR0 := Aside0.mk hr0
  have HC0 := Aside0.mk hc0
  clear hr0 hc0
  have HB := Aside0.mk (Below.refl w.heap.size w)
  have H : (if (l0.length : Int) > 1024 then (some ((⟨#[]⟩ : ByteArray), 3)) else (concourseref43_Put.l0 k l0 (⟨#[]⟩ : ByteArray) 0)) = some (r1, r2) := h
  clear h
  by_cases c2 : (l0.length : Int) > 1024
  · rw [if_pos c2] at H
    have c2b0 : decide (1024 < (l0.length : Int)) = true := decide_eq_true c2
    have c2b1 : decide (1024 < l0.length) = true := decide_eq_true (by omega)
    clear c2
    simp only [Option.some.injEq, Prod.mk.injEq] at H
    obtain ⟨rfl, rfl⟩ := H
    go_enter Try.func10, Try.ntmps10
    go_wp2
    go_ret2
    exact ⟨by first | rfl | (simp [errW_none, errW_some] <;> rfl) | (simp [*, errW_none, errW_some] <;> rfl), by repeat (first | (with_reducible first | exact HB.out | apply below_alloc | apply pw_below_drewN | apply below_drew1) | exact HB.out)⟩
  · rw [if_neg c2] at H
    have c2b0 : decide (1024 < (l0.length : Int)) = false := decide_eq_false c2
    have c2b1 : decide (1024 < l0.length) = false := decide_eq_false (by omega)
    clear c2
    have H' := Aside0.mk H
    clear H
    go_enter Try.func10, Try.ntmps10
    go_wp2
    go_loopg [4, 5] k (fun kq v4 v5 w' => ∃ (x4_1 : ByteArray) (x5_1 : Int), v4 = .string x4_1 ∧ v5 = .int .i64 x5_1 ∧ Aside0 (concourseref43_Put.l0 kq l0 x4_1 x5_1 = some (r1, r2)) ∧ Aside0 (kq ≤ k) ∧ Aside0 (Below w.heap.size w w'))
    case atStart => exact ⟨((⟨#[]⟩ : ByteArray)), (0), (by first | rfl | (simp; done) | (simp [*]; done)), (by first | rfl | (simp; done) | (simp [*]; done)), H', ⟨Nat.le_refl _⟩, ⟨by repeat (first | (with_reducible first | exact HB.out | apply below_alloc | apply pw_below_drewN | apply below_drew1) | exact HB.out)⟩⟩
    case round =>
      clear H'
      try clear c1
      try clear c2
      try clear c2b0
      try clear c2b1
      try clear p2
      obtain ⟨x4_1, x5_1, rfl, rfl, HA, HK1, HB⟩ := hrel
      cases gk with
      | zero => exact absurd HA.out (by simp [concourseref43_Put.l0])
      | succ k1 =>
        have H := HA.out
        clear HA
        simp only [concourseref43_Put.l0] at H
        by_cases c3 : x5_1 < (l0.length : Int)
        · rw [if_pos c3] at H
          have c3b0 : decide (x5_1 < (l0.length : Int)) = true := decide_eq_true c3
          clear c3
          by_cases c4 : 0 ≤ x5_1
          · rw [if_pos c4] at H
            have c4b0 : decide (0 ≤ x5_1) = true := decide_eq_true c4
            clear c4
            have HC5 := Aside0.mk H
            clear H
            have p138 : 0 ≤ (x5_1 : Int) := of_decide_eq_true (by first | (with_reducible assumption) | assumption)
            have q138 : x5_1 < (l0.length : Int) := of_decide_eq_true (by first | (with_reducible assumption) | assumption)
            obtain ⟨ad138, e138, hx138_0, hx138_1, hx138_2, hx138_3⟩ := at_T24 HR0.out x5_1 p138 q138
            cases e138
            replace hx138_0 := (HB.out.cell (World.block_lt_of_cell? w _ hx138_0)).trans hx138_0
            replace hx138_1 := (HB.out.cell (World.block_lt_of_cell? w _ hx138_1)).trans hx138_1
            replace hx138_2 := (HB.out.cell (World.block_lt_of_cell? w _ hx138_2)).trans hx138_2
            replace hx138_3 := (HB.out.cell (World.block_lt_of_cell? w _ hx138_3)).trans hx138_3
            replace p138 := eq_true p138
            replace q138 := eq_true q138
            go_upto_region 8 with (first | ((with_reducible refine gate_dst (N := 6) rfl ?_); (try (refine gate_guard (by rfl) ?_; dsimp only)); refine box_event ?hg (N := 6) ?hd (cs := #[.int .i64 0, .int .i64 0, .int .u64 0, .string (⟨#[]⟩ : ByteArray)]) (t := 24) ?hr ?_; (case hd => rfl); (case hg => rfl); (case hr => first | (go_simp; done) | (go_simp; rfl)); intro gb139 hg w6 hbox hb; have n0_ := Aside0.mk (below_step (by repeat (first | (with_reducible first | exact HB.out | apply below_alloc | apply pw_below_drewN | apply below_drew1) | exact HB.out)) hb); have n1_ := Aside0.mk (hbox); have n2_ := Aside0.mk ((by rw [hg]; exact (below_size (by repeat (first | (with_reducible first | exact HB.out | apply below_alloc | apply pw_below_drewN | apply below_drew1) | exact HB.out))) : w.heap.size ≤ gb139)); have n3_ := Aside0.mk ((by rw [hg]; exact (below_size (by repeat (first | (with_reducible first | exact HB.out | apply below_alloc | apply pw_below_drewN | apply below_drew1) | exact HB.out))) : w.heap.size ≤ gb139)); clear HB; have HB := n0_; have BK139 := n1_; have GW139 := n2_; have GE139 := n3_; clear n0_ n1_ n2_ n3_; clear hb hbox hg; have hcz7_0 : w6.cell? ⟨gb139, 0, none⟩ = some (.int .i64 0) := (blk_cell BK139.out 0).trans rfl; have hcz7_1 : w6.cell? ⟨gb139, 1, none⟩ = some (.int .i64 0) := (blk_cell BK139.out 1).trans rfl; have hcz7_2 : w6.cell? ⟨gb139, 2, none⟩ = some (.int .u64 0) := (blk_cell BK139.out 2).trans rfl; have hcz7_3 : w6.cell? ⟨gb139, 3, none⟩ = some (.string (⟨#[]⟩ : ByteArray)) := (blk_cell BK139.out 3).trans rfl; have hfz7_0 := blk_frozen BK139.out 0; have hfz7_1 := blk_frozen BK139.out 1; have hfz7_2 := blk_frozen BK139.out 2; have hfz7_3 := blk_frozen BK139.out 3))
            (try simp only [Act.put, List.setIfInBounds_toArray, List.set_cons_zero, List.set_cons_succ])
            go_cut [30] (fun v30 wc => ∃ (kq : Nat) (x30_4 : Bool), v30 = .bool x30_4 ∧ Aside0 (concourseref43_Put.j1 kq l0 x4_1 x5_1 x30_4 ((rd_T24 l0 x5_1).f0) ((rd_T24 l0 x5_1).f1) ((rd_T24 l0 x5_1).f2) ((rd_T24 l0 x5_1).f3) = some (r1, r2)) ∧ Aside0 (kq ≤ k1) ∧ Aside0 (wc.heap[gb139]? = some (.cells #[.int .i64 ((rd_T24 l0 x5_1).f0), .int .i64 ((rd_T24 l0 x5_1).f1), .int .u64 ((rd_T24 l0 x5_1).f2), .string ((rd_T24 l0 x5_1).f3)] 24 (0, 0))) ∧ Aside0 (Below w.heap.size w wc))
            case first =>
              have H := HC5.out
              clear HC5
              by_cases c8 : ((rd_T24 l0 x5_1).f0) < 1
              · rw [if_pos c8] at H
                have c8b0 : decide (((rd_T24 l0 x5_1).f0) < 1) = true := decide_eq_true c8
                clear c8
                (first | rw [c8b0] | (simp only [i64_w, i32_w]; rw [c8b0]) | skip)
                have H' := Aside0.mk H
                clear H
                have hcz9_0 : w6.cell? ⟨gb139, 0, none⟩ = some (.int .i64 0) := (blk_cell BK139.out 0).trans rfl
                have hcz9_1 : w6.cell? ⟨gb139, 1, none⟩ = some (.int .i64 0) := (blk_cell BK139.out 1).trans rfl
                have hcz9_2 : w6.cell? ⟨gb139, 2, none⟩ = some (.int .u64 0) := (blk_cell BK139.out 2).trans rfl
                have hcz9_3 : w6.cell? ⟨gb139, 3, none⟩ = some (.string (⟨#[]⟩ : ByteArray)) := (blk_cell BK139.out 3).trans rfl
                have hfz9_0 := blk_frozen BK139.out 0
                have hfz9_1 := blk_frozen BK139.out 1
                have hfz9_2 := blk_frozen BK139.out 2
                have hfz9_3 := blk_frozen BK139.out 3
                go_wp2
                go_meet
                case rel => exact ⟨_, (true), (by first | rfl | (simp; done) | (simp [*]; done)), H', ⟨by have := HK1.out; first | omega | exact Nat.le_refl _⟩, ⟨by (with_reducible repeat (first | refine blk_drewN ?_ _ | refine blk_drew ?_ | refine blk_alloc ?_ _)); refine blk_put (cs := #[.int .i64 ((rd_T24 l0 x5_1).f0), .int .i64 ((rd_T24 l0 x5_1).f1), .int .u64 ((rd_T24 l0 x5_1).f2), .string (⟨#[]⟩ : ByteArray)]) ?_ 3 _ rfl; (with_reducible repeat (first | refine blk_drewN ?_ _ | refine blk_drew ?_ | refine blk_alloc ?_ _)); refine blk_put (cs := #[.int .i64 ((rd_T24 l0 x5_1).f0), .int .i64 ((rd_T24 l0 x5_1).f1), .int .u64 0, .string (⟨#[]⟩ : ByteArray)]) ?_ 2 _ rfl; (with_reducible repeat (first | refine blk_drewN ?_ _ | refine blk_drew ?_ | refine blk_alloc ?_ _)); refine blk_put (cs := #[.int .i64 ((rd_T24 l0 x5_1).f0), .int .i64 0, .int .u64 0, .string (⟨#[]⟩ : ByteArray)]) ?_ 1 _ rfl; (with_reducible repeat (first | refine blk_drewN ?_ _ | refine blk_drew ?_ | refine blk_alloc ?_ _)); refine blk_put (cs := #[.int .i64 0, .int .i64 0, .int .u64 0, .string (⟨#[]⟩ : ByteArray)]) ?_ 0 _ rfl; (with_reducible repeat (first | refine blk_drewN ?_ _ | refine blk_drew ?_ | refine blk_alloc ?_ _)); exact BK139.out⟩, ⟨by repeat (first | (with_reducible first | exact HB.out | apply below_alloc | apply pw_below_drewN | apply below_drew1 | refine below_set ?_ GE139.out) | exact HB.out)⟩⟩
              · rw [if_neg c8] at H
                have c8b0 : decide (((rd_T24 l0 x5_1).f0) < 1) = false := decide_eq_false c8
                clear c8
                (first | rw [c8b0] | (simp only [i64_w, i32_w]; rw [c8b0]) | skip)
                have H' := Aside0.mk H
                clear H
                have hcz10_0 : w6.cell? ⟨gb139, 0, none⟩ = some (.int .i64 0) := (blk_cell BK139.out 0).trans rfl
                have hcz10_1 : w6.cell? ⟨gb139, 1, none⟩ = some (.int .i64 0) := (blk_cell BK139.out 1).trans rfl
                have hcz10_2 : w6.cell? ⟨gb139, 2, none⟩ = some (.int .u64 0) := (blk_cell BK139.out 2).trans rfl
                have hcz10_3 : w6.cell? ⟨gb139, 3, none⟩ = some (.string (⟨#[]⟩ : ByteArray)) := (blk_cell BK139.out 3).trans rfl
                have hfz10_0 := blk_frozen BK139.out 0
                have hfz10_1 := blk_frozen BK139.out 1
                have hfz10_2 := blk_frozen BK139.out 2
                have hfz10_3 := blk_frozen BK139.out 3
                go_wp2
                go_meet
                case rel => exact ⟨_, (decide (((rd_T24 l0 x5_1).f0) > 7)), (by first | rfl | (simp; done) | (simp [*]; done)), H', ⟨by have := HK1.out; first | omega | exact Nat.le_refl _⟩, ⟨by (with_reducible repeat (first | refine blk_drewN ?_ _ | refine blk_drew ?_ | refine blk_alloc ?_ _)); refine blk_put (cs := #[.int .i64 ((rd_T24 l0 x5_1).f0), .int .i64 ((rd_T24 l0 x5_1).f1), .int .u64 ((rd_T24 l0 x5_1).f2), .string (⟨#[]⟩ : ByteArray)]) ?_ 3 _ rfl; (with_reducible repeat (first | refine blk_drewN ?_ _ | refine blk_drew ?_ | refine blk_alloc ?_ _)); refine blk_put (cs := #[.int .i64 ((rd_T24 l0 x5_1).f0), .int .i64 ((rd_T24 l0 x5_1).f1), .int .u64 0, .string (⟨#[]⟩ : ByteArray)]) ?_ 2 _ rfl; (with_reducible repeat (first | refine blk_drewN ?_ _ | refine blk_drew ?_ | refine blk_alloc ?_ _)); refine blk_put (cs := #[.int .i64 ((rd_T24 l0 x5_1).f0), .int .i64 0, .int .u64 0, .string (⟨#[]⟩ : ByteArray)]) ?_ 1 _ rfl; (with_reducible repeat (first | refine blk_drewN ?_ _ | refine blk_drew ?_ | refine blk_alloc ?_ _)); refine blk_put (cs := #[.int .i64 0, .int .i64 0, .int .u64 0, .string (⟨#[]⟩ : ByteArray)]) ?_ 0 _ rfl; (with_reducible repeat (first | refine blk_drewN ?_ _ | refine blk_drew ?_ | refine blk_alloc ?_ _)); exact BK139.out⟩, ⟨by repeat (first | (with_reducible first | exact HB.out | apply below_alloc | apply pw_below_drewN | apply below_drew1 | refine below_set ?_ GE139.out) | exact HB.out)⟩⟩
            case rest =>
              clear HC5
              try clear c1
              try clear p1
              try clear q1
              try clear hx1
              try clear c2
              try clear c2b0
              try clear c2b1
              try clear p2
              try clear c3
              try clear c3b0
              try clear c4
              try clear c4b0
              try clear c8
              try clear c8b0
              try clear c10
              try clear hcz10_0
              try clear hcz10_1
              try clear hcz10_2
              try clear hcz10_3
              try clear hcz7_0
              try clear hcz7_1
              try clear hcz7_2
              try clear hcz7_3
              try clear hcz9_0
              try clear hcz9_1
              try clear hcz9_2
              try clear hcz9_3
              try clear hfz10_0
              try clear hfz10_1
              try clear hfz10_2
              try clear hfz10_3
              try clear hfz7_0
              try clear hfz7_1
              try clear hfz7_2
              try clear hfz7_3
              try clear hfz9_0
              try clear hfz9_1
              try clear hfz9_2
              try clear hfz9_3
              try clear hx138_0
              try clear hx138_1
              try clear hx138_2
              try clear hx138_3
              try clear p138
              try clear p2
              try clear q138
              obtain ⟨kq, x30_4, rfl, HA, HJ4, BK139, HB⟩ := hcut
              cases kq with
              | zero => exact absurd HA.out (by simp [concourseref43_Put.j1])
              | succ kj4 =>
                have H := HA.out
                clear HA
                simp only [concourseref43_Put.j1] at H
                by_cases c11 : x30_4 = true
                · subst c11
                  have H1 : (some ((⟨#[]⟩ : ByteArray), 4)) = some (r1, r2) := by rw [if_pos rfl] at H; exact H
                  clear H
                  have H := H1
                  clear H1
                  simp only [Option.some.injEq, Prod.mk.injEq] at H
                  obtain ⟨rfl, rfl⟩ := H
                  go_wp2
                  go_ret2
                  exact ⟨by first | rfl | (simp [errW_none, errW_some] <;> rfl) | (simp [*, errW_none, errW_some] <;> rfl), by repeat (first | (with_reducible first | exact HB.out | apply below_alloc | apply pw_below_drewN | apply below_drew1 | refine below_set ?_ GE139.out) | exact HB.out)⟩
                · replace c11 := Bool.eq_false_iff.mpr c11
                  subst c11
                  have H1 : ((concourseref43_has.f ((rd_T24 l0 x5_1).f0)).bind fun bt140 => (if bt140.1 = true then (if ((rd_T24 l0 x5_1).f1) < 0 then (concourseref43_Put.j2 kj4 l0 x4_1 x5_1 bt140.1 bt140.2.1 bt140.2.2 true ((rd_T24 l0 x5_1).f0) ((rd_T24 l0 x5_1).f1) ((rd_T24 l0 x5_1).f2) ((rd_T24 l0 x5_1).f3)) else (if ((rd_T24 l0 x5_1).f1) > 15 then (concourseref43_Put.j2 kj4 l0 x4_1 x5_1 bt140.1 bt140.2.1 bt140.2.2 true ((rd_T24 l0 x5_1).f0) ((rd_T24 l0 x5_1).f1) ((rd_T24 l0 x5_1).f2) ((rd_T24 l0 x5_1).f3)) else (if bt140.2.2 = true then (concourseref43_Put.j2 kj4 l0 x4_1 x5_1 bt140.1 bt140.2.1 bt140.2.2 (decide ((((rd_T24 l0 x5_1).f3).size : Int) > 1048576)) ((rd_T24 l0 x5_1).f0) ((rd_T24 l0 x5_1).f1) ((rd_T24 l0 x5_1).f2) ((rd_T24 l0 x5_1).f3)) else (concourseref43_Put.j2 kj4 l0 x4_1 x5_1 bt140.1 bt140.2.1 bt140.2.2 false ((rd_T24 l0 x5_1).f0) ((rd_T24 l0 x5_1).f1) ((rd_T24 l0 x5_1).f2) ((rd_T24 l0 x5_1).f3))))) else (if bt140.2.2 = true then (concourseref43_Put.j2 kj4 l0 x4_1 x5_1 bt140.1 bt140.2.1 bt140.2.2 (decide ((((rd_T24 l0 x5_1).f3).size : Int) > 1048576)) ((rd_T24 l0 x5_1).f0) ((rd_T24 l0 x5_1).f1) ((rd_T24 l0 x5_1).f2) ((rd_T24 l0 x5_1).f3)) else (concourseref43_Put.j2 kj4 l0 x4_1 x5_1 bt140.1 bt140.2.1 bt140.2.2 false ((rd_T24 l0 x5_1).f0) ((rd_T24 l0 x5_1).f1) ((rd_T24 l0 x5_1).f2) ((rd_T24 l0 x5_1).f3))))) = some (r1, r2) := by rw [if_neg (show ¬ (false = true) by decide)] at H; exact H
                  clear H
                  have H := H1
                  clear H1
                  replace H := Option.bind_eq_some_iff.mp H
                  obtain ⟨⟨t140, t141, t142⟩, A120, H⟩ := H
                  replace H : (if t140 = true then (if ((rd_T24 l0 x5_1).f1) < 0 then (concourseref43_Put.j2 kj4 l0 x4_1 x5_1 t140 t141 t142 true ((rd_T24 l0 x5_1).f0) ((rd_T24 l0 x5_1).f1) ((rd_T24 l0 x5_1).f2) ((rd_T24 l0 x5_1).f3)) else (if ((rd_T24 l0 x5_1).f1) > 15 then (concourseref43_Put.j2 kj4 l0 x4_1 x5_1 t140 t141 t142 true ((rd_T24 l0 x5_1).f0) ((rd_T24 l0 x5_1).f1) ((rd_T24 l0 x5_1).f2) ((rd_T24 l0 x5_1).f3)) else (if t142 = true then (concourseref43_Put.j2 kj4 l0 x4_1 x5_1 t140 t141 t142 (decide ((((rd_T24 l0 x5_1).f3).size : Int) > 1048576)) ((rd_T24 l0 x5_1).f0) ((rd_T24 l0 x5_1).f1) ((rd_T24 l0 x5_1).f2) ((rd_T24 l0 x5_1).f3)) else (concourseref43_Put.j2 kj4 l0 x4_1 x5_1 t140 t141 t142 false ((rd_T24 l0 x5_1).f0) ((rd_T24 l0 x5_1).f1) ((rd_T24 l0 x5_1).f2) ((rd_T24 l0 x5_1).f3))))) else (if t142 = true then (concourseref43_Put.j2 kj4 l0 x4_1 x5_1 t140 t141 t142 (decide ((((rd_T24 l0 x5_1).f3).size : Int) > 1048576)) ((rd_T24 l0 x5_1).f0) ((rd_T24 l0 x5_1).f1) ((rd_T24 l0 x5_1).f2) ((rd_T24 l0 x5_1).f3)) else (concourseref43_Put.j2 kj4 l0 x4_1 x5_1 t140 t141 t142 false ((rd_T24 l0 x5_1).f0) ((rd_T24 l0 x5_1).f1) ((rd_T24 l0 x5_1).f2) ((rd_T24 l0 x5_1).f3)))) = some (r1, r2) := H
                  have A12 := Aside0.mk A120
                  clear A120
                  have HC13 := Aside0.mk H
                  clear H
                  have hcz14_0 : wc.cell? ⟨gb139, 0, none⟩ = some (.int .i64 ((rd_T24 l0 x5_1).f0)) := (blk_cell BK139.out 0).trans rfl
                  have hcz14_1 : wc.cell? ⟨gb139, 1, none⟩ = some (.int .i64 ((rd_T24 l0 x5_1).f1)) := (blk_cell BK139.out 1).trans rfl
                  have hcz14_2 : wc.cell? ⟨gb139, 2, none⟩ = some (.int .u64 ((rd_T24 l0 x5_1).f2)) := (blk_cell BK139.out 2).trans rfl
                  have hcz14_3 : wc.cell? ⟨gb139, 3, none⟩ = some (.string ((rd_T24 l0 x5_1).f3)) := (blk_cell BK139.out 3).trans rfl
                  have hfz14_0 := blk_frozen BK139.out 0
                  have hfz14_1 := blk_frozen BK139.out 1
                  have hfz14_2 := blk_frozen BK139.out 2
                  have hfz14_3 := blk_frozen BK139.out 3
                  go_upto_region 11 with (first | ((with_reducible refine gate_callee (f := 19) rfl ?_); refine goesL_ (some 34) rfl rfl Try.func19 (by kernel_rfl) rfl #[.int .i64 ((rd_T24 l0 x5_1).f0)] rfl (by (try simp only [List.map_toArray, List.map_cons, List.map_nil]); first | done | rfl | (simp only [List.length_drop, List.length_take]; rfl)) ?_; (with_reducible refine (concourseref43_has.calls ((rd_T24 l0 x5_1).f0) t140 t141 t142 _ A12.out).mono ?_); rintro e w' ⟨rfl, ⟨nd, rfl⟩⟩; refine ⟨_, rfl, ?_⟩))
                  (try simp only [Act.put, List.setIfInBounds_toArray, List.set_cons_zero, List.set_cons_succ])
                  go_cut [57] (fun v57 wc => ∃ (kq : Nat) (x57_12 : Bool), v57 = .bool x57_12 ∧ Aside0 (concourseref43_Put.j2 kq l0 x4_1 x5_1 t140 t141 t142 x57_12 ((rd_T24 l0 x5_1).f0) ((rd_T24 l0 x5_1).f1) ((rd_T24 l0 x5_1).f2) ((rd_T24 l0 x5_1).f3) = some (r1, r2)) ∧ Aside0 (kq ≤ kj4) ∧ Aside0 (wc.heap[gb139]? = some (.cells #[.int .i64 ((rd_T24 l0 x5_1).f0), .int .i64 ((rd_T24 l0 x5_1).f1), .int .u64 ((rd_T24 l0 x5_1).f2), .string ((rd_T24 l0 x5_1).f3)] 24 (0, 0))) ∧ Aside0 (Below w.heap.size w wc))
                  case first =>
                    have H := HC13.out
                    clear HC13
                    by_cases c15 : t140 = true
                    · subst c15
                      have H1 : (if ((rd_T24 l0 x5_1).f1) < 0 then (concourseref43_Put.j2 kj4 l0 x4_1 x5_1 true t141 t142 true ((rd_T24 l0 x5_1).f0) ((rd_T24 l0 x5_1).f1) ((rd_T24 l0 x5_1).f2) ((rd_T24 l0 x5_1).f3)) else (if ((rd_T24 l0 x5_1).f1) > 15 then (concourseref43_Put.j2 kj4 l0 x4_1 x5_1 true t141 t142 true ((rd_T24 l0 x5_1).f0) ((rd_T24 l0 x5_1).f1) ((rd_T24 l0 x5_1).f2) ((rd_T24 l0 x5_1).f3)) else (if t142 = true then (concourseref43_Put.j2 kj4 l0 x4_1 x5_1 true t141 t142 (decide ((((rd_T24 l0 x5_1).f3).size : Int) > 1048576)) ((rd_T24 l0 x5_1).f0) ((rd_T24 l0 x5_1).f1) ((rd_T24 l0 x5_1).f2) ((rd_T24 l0 x5_1).f3)) else (concourseref43_Put.j2 kj4 l0 x4_1 x5_1 true t141 t142 false ((rd_T24 l0 x5_1).f0) ((rd_T24 l0 x5_1).f1) ((rd_T24 l0 x5_1).f2) ((rd_T24 l0 x5_1).f3))))) = some (r1, r2) := by rw [if_pos rfl] at H; exact H
                      clear H
                      have H := H1
                      clear H1
                      by_cases c16 : ((rd_T24 l0 x5_1).f1) < 0
                      · rw [if_pos c16] at H
                        have c16b0 : decide (((rd_T24 l0 x5_1).f1) < 0) = true := decide_eq_true c16
                        clear c16
                        (first | rw [c16b0] | (simp only [i64_w, i32_w]; rw [c16b0]) | skip)
                        have H' := Aside0.mk H
                        clear H
                        have hcz17_0 : wc.cell? ⟨gb139, 0, none⟩ = some (.int .i64 ((rd_T24 l0 x5_1).f0)) := (blk_cell BK139.out 0).trans rfl
                        have hcz17_1 : wc.cell? ⟨gb139, 1, none⟩ = some (.int .i64 ((rd_T24 l0 x5_1).f1)) := (blk_cell BK139.out 1).trans rfl
                        have hcz17_2 : wc.cell? ⟨gb139, 2, none⟩ = some (.int .u64 ((rd_T24 l0 x5_1).f2)) := (blk_cell BK139.out 2).trans rfl
                        have hcz17_3 : wc.cell? ⟨gb139, 3, none⟩ = some (.string ((rd_T24 l0 x5_1).f3)) := (blk_cell BK139.out 3).trans rfl
                        have hfz17_0 := blk_frozen BK139.out 0
                        have hfz17_1 := blk_frozen BK139.out 1
                        have hfz17_2 := blk_frozen BK139.out 2
                        have hfz17_3 := blk_frozen BK139.out 3
                        go_wp2
                        go_meet
                        case rel => exact ⟨_, (true), (by first | rfl | (simp; done) | (simp [*]; done)), H', ⟨by have := HK1.out; have := HJ4.out; first | omega | exact Nat.le_refl _⟩, ⟨by (with_reducible repeat (first | refine blk_drewN ?_ _ | refine blk_drew ?_ | refine blk_alloc ?_ _)); exact BK139.out⟩, ⟨by repeat (first | (with_reducible first | exact HB.out | apply below_alloc | apply pw_below_drewN | apply below_drew1 | refine below_set ?_ GE139.out) | exact HB.out)⟩⟩
                      · rw [if_neg c16] at H
                        have c16b0 : decide (((rd_T24 l0 x5_1).f1) < 0) = false := decide_eq_false c16
                        clear c16
                        (first | rw [c16b0] | (simp only [i64_w, i32_w]; rw [c16b0]) | skip)
                        by_cases c18 : ((rd_T24 l0 x5_1).f1) > 15
                        · rw [if_pos c18] at H
                          have c18b0 : decide (15 < ((rd_T24 l0 x5_1).f1)) = true := decide_eq_true c18
                          clear c18
                          have H' := Aside0.mk H
                          clear H
                          have hcz19_0 : wc.cell? ⟨gb139, 0, none⟩ = some (.int .i64 ((rd_T24 l0 x5_1).f0)) := (blk_cell BK139.out 0).trans rfl
                          have hcz19_1 : wc.cell? ⟨gb139, 1, none⟩ = some (.int .i64 ((rd_T24 l0 x5_1).f1)) := (blk_cell BK139.out 1).trans rfl
                          have hcz19_2 : wc.cell? ⟨gb139, 2, none⟩ = some (.int .u64 ((rd_T24 l0 x5_1).f2)) := (blk_cell BK139.out 2).trans rfl
                          have hcz19_3 : wc.cell? ⟨gb139, 3, none⟩ = some (.string ((rd_T24 l0 x5_1).f3)) := (blk_cell BK139.out 3).trans rfl
                          have hfz19_0 := blk_frozen BK139.out 0
                          have hfz19_1 := blk_frozen BK139.out 1
                          have hfz19_2 := blk_frozen BK139.out 2
                          have hfz19_3 := blk_frozen BK139.out 3
                          go_wp2
                          go_meet
                          case rel => exact ⟨_, (true), (by first | rfl | (simp; done) | (simp [*]; done)), H', ⟨by have := HK1.out; have := HJ4.out; first | omega | exact Nat.le_refl _⟩, ⟨by (with_reducible repeat (first | refine blk_drewN ?_ _ | refine blk_drew ?_ | refine blk_alloc ?_ _)); exact BK139.out⟩, ⟨by repeat (first | (with_reducible first | exact HB.out | apply below_alloc | apply pw_below_drewN | apply below_drew1 | refine below_set ?_ GE139.out) | exact HB.out)⟩⟩
                        · rw [if_neg c18] at H
                          have c18b0 : decide (15 < ((rd_T24 l0 x5_1).f1)) = false := decide_eq_false c18
                          clear c18
                          by_cases c20 : t142 = true
                          · subst c20
                            have H1 : (concourseref43_Put.j2 kj4 l0 x4_1 x5_1 true t141 true (decide ((((rd_T24 l0 x5_1).f3).size : Int) > 1048576)) ((rd_T24 l0 x5_1).f0) ((rd_T24 l0 x5_1).f1) ((rd_T24 l0 x5_1).f2) ((rd_T24 l0 x5_1).f3)) = some (r1, r2) := by rw [if_pos rfl] at H; exact H
                            clear H
                            have H := H1
                            clear H1
                            have H' := Aside0.mk H
                            clear H
                            have hcz21_0 : wc.cell? ⟨gb139, 0, none⟩ = some (.int .i64 ((rd_T24 l0 x5_1).f0)) := (blk_cell BK139.out 0).trans rfl
                            have hcz21_1 : wc.cell? ⟨gb139, 1, none⟩ = some (.int .i64 ((rd_T24 l0 x5_1).f1)) := (blk_cell BK139.out 1).trans rfl
                            have hcz21_2 : wc.cell? ⟨gb139, 2, none⟩ = some (.int .u64 ((rd_T24 l0 x5_1).f2)) := (blk_cell BK139.out 2).trans rfl
                            have hcz21_3 : wc.cell? ⟨gb139, 3, none⟩ = some (.string ((rd_T24 l0 x5_1).f3)) := (blk_cell BK139.out 3).trans rfl
                            have hfz21_0 := blk_frozen BK139.out 0
                            have hfz21_1 := blk_frozen BK139.out 1
                            have hfz21_2 := blk_frozen BK139.out 2
                            have hfz21_3 := blk_frozen BK139.out 3
                            go_wp2
                            go_meet
                            case rel => exact ⟨_, (decide ((((rd_T24 l0 x5_1).f3).size : Int) > 1048576)), (by first | rfl | (simp; done) | (simp [*]; done)), H', ⟨by have := HK1.out; have := HJ4.out; first | omega | exact Nat.le_refl _⟩, ⟨by (with_reducible repeat (first | refine blk_drewN ?_ _ | refine blk_drew ?_ | refine blk_alloc ?_ _)); exact BK139.out⟩, ⟨by repeat (first | (with_reducible first | exact HB.out | apply below_alloc | apply pw_below_drewN | apply below_drew1 | refine below_set ?_ GE139.out) | exact HB.out)⟩⟩
                          · replace c20 := Bool.eq_false_iff.mpr c20
                            subst c20
                            have H1 : (concourseref43_Put.j2 kj4 l0 x4_1 x5_1 true t141 false false ((rd_T24 l0 x5_1).f0) ((rd_T24 l0 x5_1).f1) ((rd_T24 l0 x5_1).f2) ((rd_T24 l0 x5_1).f3)) = some (r1, r2) := by rw [if_neg (show ¬ (false = true) by decide)] at H; exact H
                            clear H
                            have H := H1
                            clear H1
                            have H' := Aside0.mk H
                            clear H
                            have hcz22_0 : wc.cell? ⟨gb139, 0, none⟩ = some (.int .i64 ((rd_T24 l0 x5_1).f0)) := (blk_cell BK139.out 0).trans rfl
                            have hcz22_1 : wc.cell? ⟨gb139, 1, none⟩ = some (.int .i64 ((rd_T24 l0 x5_1).f1)) := (blk_cell BK139.out 1).trans rfl
                            have hcz22_2 : wc.cell? ⟨gb139, 2, none⟩ = some (.int .u64 ((rd_T24 l0 x5_1).f2)) := (blk_cell BK139.out 2).trans rfl
                            have hcz22_3 : wc.cell? ⟨gb139, 3, none⟩ = some (.string ((rd_T24 l0 x5_1).f3)) := (blk_cell BK139.out 3).trans rfl
                            have hfz22_0 := blk_frozen BK139.out 0
                            have hfz22_1 := blk_frozen BK139.out 1
                            have hfz22_2 := blk_frozen BK139.out 2
                            have hfz22_3 := blk_frozen BK139.out 3
                            go_wp2
                            go_meet
                            case rel => exact ⟨_, (false), (by first | rfl | (simp; done) | (simp [*]; done)), H', ⟨by have := HK1.out; have := HJ4.out; first | omega | exact Nat.le_refl _⟩, ⟨by (with_reducible repeat (first | refine blk_drewN ?_ _ | refine blk_drew ?_ | refine blk_alloc ?_ _)); exact BK139.out⟩, ⟨by repeat (first | (with_reducible first | exact HB.out | apply below_alloc | apply pw_below_drewN | apply below_drew1 | refine below_set ?_ GE139.out) | exact HB.out)⟩⟩
                    · replace c15 := Bool.eq_false_iff.mpr c15
                      subst c15
                      have H1 : (if t142 = true then (concourseref43_Put.j2 kj4 l0 x4_1 x5_1 false t141 t142 (decide ((((rd_T24 l0 x5_1).f3).size : Int) > 1048576)) ((rd_T24 l0 x5_1).f0) ((rd_T24 l0 x5_1).f1) ((rd_T24 l0 x5_1).f2) ((rd_T24 l0 x5_1).f3)) else (concourseref43_Put.j2 kj4 l0 x4_1 x5_1 false t141 t142 false ((rd_T24 l0 x5_1).f0) ((rd_T24 l0 x5_1).f1) ((rd_T24 l0 x5_1).f2) ((rd_T24 l0 x5_1).f3))) = some (r1, r2) := by rw [if_neg (show ¬ (false = true) by decide)] at H; exact H
                      clear H
                      have H := H1
                      clear H1
                      by_cases c23 : t142 = true
                      · subst c23
                        have H1 : (concourseref43_Put.j2 kj4 l0 x4_1 x5_1 false t141 true (decide ((((rd_T24 l0 x5_1).f3).size : Int) > 1048576)) ((rd_T24 l0 x5_1).f0) ((rd_T24 l0 x5_1).f1) ((rd_T24 l0 x5_1).f2) ((rd_T24 l0 x5_1).f3)) = some (r1, r2) := by rw [if_pos rfl] at H; exact H
                        clear H
                        have H := H1
                        clear H1
                        have H' := Aside0.mk H
                        clear H
                        have hcz24_0 : wc.cell? ⟨gb139, 0, none⟩ = some (.int .i64 ((rd_T24 l0 x5_1).f0)) := (blk_cell BK139.out 0).trans rfl
                        have hcz24_1 : wc.cell? ⟨gb139, 1, none⟩ = some (.int .i64 ((rd_T24 l0 x5_1).f1)) := (blk_cell BK139.out 1).trans rfl
                        have hcz24_2 : wc.cell? ⟨gb139, 2, none⟩ = some (.int .u64 ((rd_T24 l0 x5_1).f2)) := (blk_cell BK139.out 2).trans rfl
                        have hcz24_3 : wc.cell? ⟨gb139, 3, none⟩ = some (.string ((rd_T24 l0 x5_1).f3)) := (blk_cell BK139.out 3).trans rfl
                        have hfz24_0 := blk_frozen BK139.out 0
                        have hfz24_1 := blk_frozen BK139.out 1
                        have hfz24_2 := blk_frozen BK139.out 2
                        have hfz24_3 := blk_frozen BK139.out 3
                        go_wp2
                        go_meet
                        case rel => exact ⟨_, (decide ((((rd_T24 l0 x5_1).f3).size : Int) > 1048576)), (by first | rfl | (simp; done) | (simp [*]; done)), H', ⟨by have := HK1.out; have := HJ4.out; first | omega | exact Nat.le_refl _⟩, ⟨by (with_reducible repeat (first | refine blk_drewN ?_ _ | refine blk_drew ?_ | refine blk_alloc ?_ _)); exact BK139.out⟩, ⟨by repeat (first | (with_reducible first | exact HB.out | apply below_alloc | apply pw_below_drewN | apply below_drew1 | refine below_set ?_ GE139.out) | exact HB.out)⟩⟩
                      · replace c23 := Bool.eq_false_iff.mpr c23
                        subst c23
                        have H1 : (concourseref43_Put.j2 kj4 l0 x4_1 x5_1 false t141 false false ((rd_T24 l0 x5_1).f0) ((rd_T24 l0 x5_1).f1) ((rd_T24 l0 x5_1).f2) ((rd_T24 l0 x5_1).f3)) = some (r1, r2) := by rw [if_neg (show ¬ (false = true) by decide)] at H; exact H
                        clear H
                        have H := H1
                        clear H1
                        have H' := Aside0.mk H
                        clear H
                        go_wp2
                        go_meet
                        case rel => exact ⟨_, (false), (by first | rfl | (simp; done) | (simp [*]; done)), H', ⟨by have := HK1.out; have := HJ4.out; first | omega | exact Nat.le_refl _⟩, ⟨by (with_reducible repeat (first | refine blk_drewN ?_ _ | refine blk_drew ?_ | refine blk_alloc ?_ _)); exact BK139.out⟩, ⟨by repeat (first | (with_reducible first | exact HB.out | apply below_alloc | apply pw_below_drewN | apply below_drew1 | refine below_set ?_ GE139.out) | exact HB.out)⟩⟩
                  case rest =>
                    clear HC13
                    try clear c1
                    try clear p1
                    try clear q1
                    try clear hx1
                    try clear c2
                    try clear c2b0
                    try clear c2b1
                    try clear p2
                    try clear c3
                    try clear c3b0
                    try clear c4
                    try clear c4b0
                    try clear c8
                    try clear c8b0
                    try clear c10
                    try clear c11
                    try clear p13
                    try clear q13
                    try clear hx13
                    try clear c15
                    try clear c16
                    try clear c16b0
                    try clear c18
                    try clear c18b0
                    try clear c19
                    try clear c20
                    try clear c23
                    try clear hcz10_0
                    try clear hcz10_1
                    try clear hcz10_2
                    try clear hcz10_3
                    try clear hcz14_0
                    try clear hcz14_1
                    try clear hcz14_2
                    try clear hcz14_3
                    try clear hcz17_0
                    try clear hcz17_1
                    try clear hcz17_2
                    try clear hcz17_3
                    try clear hcz19_0
                    try clear hcz19_1
                    try clear hcz19_2
                    try clear hcz19_3
                    try clear hcz21_0
                    try clear hcz21_1
                    try clear hcz21_2
                    try clear hcz21_3
                    try clear hcz22_0
                    try clear hcz22_1
                    try clear hcz22_2
                    try clear hcz22_3
                    try clear hcz24_0
                    try clear hcz24_1
                    try clear hcz24_2
                    try clear hcz24_3
                    try clear hcz7_0
                    try clear hcz7_1
                    try clear hcz7_2
                    try clear hcz7_3
                    try clear hcz9_0
                    try clear hcz9_1
                    try clear hcz9_2
                    try clear hcz9_3
                    try clear hfz10_0
                    try clear hfz10_1
                    try clear hfz10_2
                    try clear hfz10_3
                    try clear hfz14_0
                    try clear hfz14_1
                    try clear hfz14_2
                    try clear hfz14_3
                    try clear hfz17_0
                    try clear hfz17_1
                    try clear hfz17_2
                    try clear hfz17_3
                    try clear hfz19_0
                    try clear hfz19_1
                    try clear hfz19_2
                    try clear hfz19_3
                    try clear hfz21_0
                    try clear hfz21_1
                    try clear hfz21_2
                    try clear hfz21_3
                    try clear hfz22_0
                    try clear hfz22_1
                    try clear hfz22_2
                    try clear hfz22_3
                    try clear hfz24_0
                    try clear hfz24_1
                    try clear hfz24_2
                    try clear hfz24_3
                    try clear hfz7_0
                    try clear hfz7_1
                    try clear hfz7_2
                    try clear hfz7_3
                    try clear hfz9_0
                    try clear hfz9_1
                    try clear hfz9_2
                    try clear hfz9_3
                    try clear hx138_0
                    try clear hx138_1
                    try clear hx138_2
                    try clear hx138_3
                    try clear p1
                    try clear p138
                    try clear p2
                    try clear q1
                    try clear q138
                    obtain ⟨kq, x57_12, rfl, HA, HJ12, BK139, HB⟩ := hcut
                    cases kq with
                    | zero => exact absurd HA.out (by simp [concourseref43_Put.j2])
                    | succ kj12 =>
                      have H := HA.out
                      clear HA
                      simp only [concourseref43_Put.j2] at H
                      by_cases c25 : x57_12 = true
                      · subst c25
                        have H1 : (some ((⟨#[]⟩ : ByteArray), 1)) = some (r1, r2) := by rw [if_pos rfl] at H; exact H
                        clear H
                        have H := H1
                        clear H1
                        simp only [Option.some.injEq, Prod.mk.injEq] at H
                        obtain ⟨rfl, rfl⟩ := H
                        go_wp2
                        go_ret2
                        exact ⟨by first | rfl | (simp [errW_none, errW_some] <;> rfl) | (simp [*, errW_none, errW_some] <;> rfl), by repeat (first | (with_reducible first | exact HB.out | apply below_alloc | apply pw_below_drewN | apply below_drew1 | refine below_set ?_ GE139.out) | exact HB.out)⟩
                      · replace c25 := Bool.eq_false_iff.mpr c25
                        subst c25
                        have H1 : ((concourseref01_Byte.f ((rd_T24 l0 x5_1).f0)).bind fun t143 => (if x4_1.size + t143.size ≤ 9223372036854775807 then (if t141 = true then ((concourseref01_Put.f kj12 ((rd_T24 l0 x5_1).f2)).bind fun t144 => (if (x4_1 ++ t143).size + t144.size ≤ 9223372036854775807 then (concourseref43_Put.j3 kj12 l0 ((x4_1 ++ t143) ++ t144) x5_1 t140 t142 ((rd_T24 l0 x5_1).f0) ((rd_T24 l0 x5_1).f1) ((rd_T24 l0 x5_1).f2) ((rd_T24 l0 x5_1).f3)) else (none))) else (concourseref43_Put.j3 kj12 l0 (x4_1 ++ t143) x5_1 t140 t142 ((rd_T24 l0 x5_1).f0) ((rd_T24 l0 x5_1).f1) ((rd_T24 l0 x5_1).f2) ((rd_T24 l0 x5_1).f3))) else (none))) = some (r1, r2) := by rw [if_neg (show ¬ (false = true) by decide)] at H; exact H
                        clear H
                        have H := H1
                        clear H1
                        replace H := Option.bind_eq_some_iff.mp H
                        obtain ⟨t143, A260, H⟩ := H
                        replace H : (if x4_1.size + t143.size ≤ 9223372036854775807 then (if t141 = true then ((concourseref01_Put.f kj12 ((rd_T24 l0 x5_1).f2)).bind fun t144 => (if (x4_1 ++ t143).size + t144.size ≤ 9223372036854775807 then (concourseref43_Put.j3 kj12 l0 ((x4_1 ++ t143) ++ t144) x5_1 t140 t142 ((rd_T24 l0 x5_1).f0) ((rd_T24 l0 x5_1).f1) ((rd_T24 l0 x5_1).f2) ((rd_T24 l0 x5_1).f3)) else (none))) else (concourseref43_Put.j3 kj12 l0 (x4_1 ++ t143) x5_1 t140 t142 ((rd_T24 l0 x5_1).f0) ((rd_T24 l0 x5_1).f1) ((rd_T24 l0 x5_1).f2) ((rd_T24 l0 x5_1).f3))) else (none)) = some (r1, r2) := H
                        have A26 := Aside0.mk A260
                        clear A260
                        by_cases c27 : x4_1.size + t143.size ≤ 9223372036854775807
                        · rw [if_pos c27] at H
                          have c27b0 := eq_true c27
                          have c27b1 : decide (x4_1.size + t143.size ≤ 9223372036854775807) = true := decide_eq_true c27
                          try have c27b2 : (9223372036854775807 < x4_1.size + t143.size) = False := eq_false (Nat.not_lt.2 c27)
                          have HC28 := Aside0.mk H
                          clear H
                          have hcz29_0 : wc.cell? ⟨gb139, 0, none⟩ = some (.int .i64 ((rd_T24 l0 x5_1).f0)) := (blk_cell BK139.out 0).trans rfl
                          have hcz29_1 : wc.cell? ⟨gb139, 1, none⟩ = some (.int .i64 ((rd_T24 l0 x5_1).f1)) := (blk_cell BK139.out 1).trans rfl
                          have hcz29_2 : wc.cell? ⟨gb139, 2, none⟩ = some (.int .u64 ((rd_T24 l0 x5_1).f2)) := (blk_cell BK139.out 2).trans rfl
                          have hcz29_3 : wc.cell? ⟨gb139, 3, none⟩ = some (.string ((rd_T24 l0 x5_1).f3)) := (blk_cell BK139.out 3).trans rfl
                          have hfz29_0 := blk_frozen BK139.out 0
                          have hfz29_1 := blk_frozen BK139.out 1
                          have hfz29_2 := blk_frozen BK139.out 2
                          have hfz29_3 := blk_frozen BK139.out 3
                          go_upto_if 63 with (first | ((with_reducible refine gate_callee (f := 20) rfl ?_); refine goesL_ (some 61) rfl rfl Try.func20 (by kernel_rfl) rfl #[.int .i64 ((rd_T24 l0 x5_1).f0)] rfl (by (try simp only [List.map_toArray, List.map_cons, List.map_nil]); first | done | rfl | (simp only [List.length_drop, List.length_take]; rfl)) ?_; (with_reducible refine (concourseref01_Byte.calls ((rd_T24 l0 x5_1).f0) t143 _ A26.out).mono ?_); rintro e w30 ⟨rfl, hb⟩; refine ⟨_, rfl, ?_⟩; have n0_ := Aside0.mk (blk_below (g := gb139) (o := .cells #[.int .i64 ((rd_T24 l0 x5_1).f0), .int .i64 ((rd_T24 l0 x5_1).f1), .int .u64 ((rd_T24 l0 x5_1).f2), .string ((rd_T24 l0 x5_1).f3)] 24 (0, 0)) (by (with_reducible repeat (first | refine blk_drewN ?_ _ | refine blk_drew ?_ | refine blk_alloc ?_ _)); exact BK139.out) hb); have n1_ := Aside0.mk (below_step (by repeat (first | (with_reducible first | exact HB.out | apply below_alloc | apply pw_below_drewN | apply below_drew1 | refine below_set ?_ GE139.out) | exact HB.out)) hb); clear BK139; clear HB; have BK139 := n0_; have HB := n1_; clear n0_ n1_; (try clear hb); (try clear hb2); (try clear hk); (try clear hi)))
                          (try simp only [Act.put, List.setIfInBounds_toArray, List.set_cons_zero, List.set_cons_succ])
                          go_cut [4] (fun v4 wc => ∃ (kq : Nat) (x4_27 : ByteArray), v4 = .string x4_27 ∧ Aside0 (concourseref43_Put.j3 kq l0 x4_27 x5_1 t140 t142 ((rd_T24 l0 x5_1).f0) ((rd_T24 l0 x5_1).f1) ((rd_T24 l0 x5_1).f2) ((rd_T24 l0 x5_1).f3) = some (r1, r2)) ∧ Aside0 (kq ≤ kj12) ∧ Aside0 (wc.heap[gb139]? = some (.cells #[.int .i64 ((rd_T24 l0 x5_1).f0), .int .i64 ((rd_T24 l0 x5_1).f1), .int .u64 ((rd_T24 l0 x5_1).f2), .string ((rd_T24 l0 x5_1).f3)] 24 (0, 0))) ∧ Aside0 (Below w.heap.size w wc))
                          case first =>
                            have H := HC28.out
                            clear HC28
                            by_cases c31 : t141 = true
                            · subst c31
                              have H1 : ((concourseref01_Put.f kj12 ((rd_T24 l0 x5_1).f2)).bind fun t144 => (if (x4_1 ++ t143).size + t144.size ≤ 9223372036854775807 then (concourseref43_Put.j3 kj12 l0 ((x4_1 ++ t143) ++ t144) x5_1 t140 t142 ((rd_T24 l0 x5_1).f0) ((rd_T24 l0 x5_1).f1) ((rd_T24 l0 x5_1).f2) ((rd_T24 l0 x5_1).f3)) else (none))) = some (r1, r2) := by rw [if_pos rfl] at H; exact H
                              clear H
                              have H := H1
                              clear H1
                              replace H := Option.bind_eq_some_iff.mp H
                              obtain ⟨t144, A320, H⟩ := H
                              replace H : (if (x4_1 ++ t143).size + t144.size ≤ 9223372036854775807 then (concourseref43_Put.j3 kj12 l0 ((x4_1 ++ t143) ++ t144) x5_1 t140 t142 ((rd_T24 l0 x5_1).f0) ((rd_T24 l0 x5_1).f1) ((rd_T24 l0 x5_1).f2) ((rd_T24 l0 x5_1).f3)) else (none)) = some (r1, r2) := H
                              have A32 := Aside0.mk A320
                              clear A320
                              by_cases c33 : (x4_1 ++ t143).size + t144.size ≤ 9223372036854775807
                              · rw [if_pos c33] at H
                                have c33b0 := eq_true c33
                                have c33b1 : decide ((x4_1 ++ t143).size + t144.size ≤ 9223372036854775807) = true := decide_eq_true c33
                                try have c33b2 : (9223372036854775807 < (x4_1 ++ t143).size + t144.size) = False := eq_false (Nat.not_lt.2 c33)
                                try have c33b3 := c33b2
                                try simp only [ByteArray.size_append] at c33b3
                                have H' := Aside0.mk H
                                clear H
                                have hcz34_0 : w30.cell? ⟨gb139, 0, none⟩ = some (.int .i64 ((rd_T24 l0 x5_1).f0)) := (blk_cell BK139.out 0).trans rfl
                                have hcz34_1 : w30.cell? ⟨gb139, 1, none⟩ = some (.int .i64 ((rd_T24 l0 x5_1).f1)) := (blk_cell BK139.out 1).trans rfl
                                have hcz34_2 : w30.cell? ⟨gb139, 2, none⟩ = some (.int .u64 ((rd_T24 l0 x5_1).f2)) := (blk_cell BK139.out 2).trans rfl
                                have hcz34_3 : w30.cell? ⟨gb139, 3, none⟩ = some (.string ((rd_T24 l0 x5_1).f3)) := (blk_cell BK139.out 3).trans rfl
                                have hfz34_0 := blk_frozen BK139.out 0
                                have hfz34_1 := blk_frozen BK139.out 1
                                have hfz34_2 := blk_frozen BK139.out 2
                                have hfz34_3 := blk_frozen BK139.out 3
                                go_wp2_with (first | ((with_reducible refine gate_callee (f := 21) rfl ?_); refine goesL_ (some 67) rfl rfl Try.func21 (by kernel_rfl) rfl #[.int .u64 ((rd_T24 l0 x5_1).f2)] rfl (by (try simp only [List.map_toArray, List.map_cons, List.map_nil]); first | done | rfl | (simp only [List.length_drop, List.length_take]; rfl)) ?_; (with_reducible refine (concourseref01_Put.calls kj12 ((rd_T24 l0 x5_1).f2) t144 _ A32.out).mono ?_); rintro e w35 ⟨rfl, hb⟩; refine ⟨_, rfl, ?_⟩; have n0_ := Aside0.mk (blk_below (g := gb139) (o := .cells #[.int .i64 ((rd_T24 l0 x5_1).f0), .int .i64 ((rd_T24 l0 x5_1).f1), .int .u64 ((rd_T24 l0 x5_1).f2), .string ((rd_T24 l0 x5_1).f3)] 24 (0, 0)) (by (with_reducible repeat (first | refine blk_drewN ?_ _ | refine blk_drew ?_ | refine blk_alloc ?_ _)); exact BK139.out) hb); have n1_ := Aside0.mk (below_step (by repeat (first | (with_reducible first | exact HB.out | apply below_alloc | apply pw_below_drewN | apply below_drew1 | refine below_set ?_ GE139.out) | exact HB.out)) hb); clear BK139; clear HB; have BK139 := n0_; have HB := n1_; clear n0_ n1_; (try clear hb); (try clear hb2); (try clear hk); (try clear hi)))
                                go_meet
                                case rel => exact ⟨_, ((x4_1 ++ t143) ++ t144), (by first | rfl | (simp; done) | (simp [*]; done)), H', ⟨by have := HK1.out; have := HJ4.out; have := HJ12.out; first | omega | exact Nat.le_refl _⟩, ⟨by (with_reducible repeat (first | refine blk_drewN ?_ _ | refine blk_drew ?_ | refine blk_alloc ?_ _)); exact BK139.out⟩, ⟨by repeat (first | (with_reducible first | exact HB.out | apply below_alloc | apply pw_below_drewN | apply below_drew1 | refine below_set ?_ GE139.out) | exact HB.out)⟩⟩
                              · rw [if_neg c33] at H
                                exact absurd H (by simp)
                            · replace c31 := Bool.eq_false_iff.mpr c31
                              subst c31
                              have H1 : (concourseref43_Put.j3 kj12 l0 (x4_1 ++ t143) x5_1 t140 t142 ((rd_T24 l0 x5_1).f0) ((rd_T24 l0 x5_1).f1) ((rd_T24 l0 x5_1).f2) ((rd_T24 l0 x5_1).f3)) = some (r1, r2) := by rw [if_neg (show ¬ (false = true) by decide)] at H; exact H
                              clear H
                              have H := H1
                              clear H1
                              have H' := Aside0.mk H
                              clear H
                              go_wp2
                              go_meet
                              case rel => exact ⟨_, (x4_1 ++ t143), (by first | rfl | (simp; done) | (simp [*]; done)), H', ⟨by have := HK1.out; have := HJ4.out; have := HJ12.out; first | omega | exact Nat.le_refl _⟩, ⟨by (with_reducible repeat (first | refine blk_drewN ?_ _ | refine blk_drew ?_ | refine blk_alloc ?_ _)); exact BK139.out⟩, ⟨by repeat (first | (with_reducible first | exact HB.out | apply below_alloc | apply pw_below_drewN | apply below_drew1 | refine below_set ?_ GE139.out) | exact HB.out)⟩⟩
                          case rest =>
                            clear HC28
                            try clear c1
                            try clear p1
                            try clear q1
                            try clear hx1
                            try clear c2
                            try clear c2b0
                            try clear c2b1
                            try clear p2
                            try clear c3
                            try clear c3b0
                            try clear c4
                            try clear c4b0
                            try clear c8
                            try clear c8b0
                            try clear c10
                            try clear c11
                            try clear p13
                            try clear q13
                            try clear hx13
                            try clear c15
                            try clear c16
                            try clear c16b0
                            try clear c18
                            try clear c18b0
                            try clear c19
                            try clear c20
                            try clear c21
                            try clear c23
                            try clear c25
                            try clear c27
                            try clear c27b0
                            try clear c27b1
                            try clear c27b2
                            try clear c31
                            try clear c33
                            try clear c33b0
                            try clear c33b1
                            try clear c33b2
                            try clear hcz10_0
                            try clear hcz10_1
                            try clear hcz10_2
                            try clear hcz10_3
                            try clear hcz14_0
                            try clear hcz14_1
                            try clear hcz14_2
                            try clear hcz14_3
                            try clear hcz17_0
                            try clear hcz17_1
                            try clear hcz17_2
                            try clear hcz17_3
                            try clear hcz19_0
                            try clear hcz19_1
                            try clear hcz19_2
                            try clear hcz19_3
                            try clear hcz21_0
                            try clear hcz21_1
                            try clear hcz21_2
                            try clear hcz21_3
                            try clear hcz22_0
                            try clear hcz22_1
                            try clear hcz22_2
                            try clear hcz22_3
                            try clear hcz24_0
                            try clear hcz24_1
                            try clear hcz24_2
                            try clear hcz24_3
                            try clear hcz29_0
                            try clear hcz29_1
                            try clear hcz29_2
                            try clear hcz29_3
                            try clear hcz34_0
                            try clear hcz34_1
                            try clear hcz34_2
                            try clear hcz34_3
                            try clear hcz7_0
                            try clear hcz7_1
                            try clear hcz7_2
                            try clear hcz7_3
                            try clear hcz9_0
                            try clear hcz9_1
                            try clear hcz9_2
                            try clear hcz9_3
                            try clear hfz10_0
                            try clear hfz10_1
                            try clear hfz10_2
                            try clear hfz10_3
                            try clear hfz14_0
                            try clear hfz14_1
                            try clear hfz14_2
                            try clear hfz14_3
                            try clear hfz17_0
                            try clear hfz17_1
                            try clear hfz17_2
                            try clear hfz17_3
                            try clear hfz19_0
                            try clear hfz19_1
                            try clear hfz19_2
                            try clear hfz19_3
                            try clear hfz21_0
                            try clear hfz21_1
                            try clear hfz21_2
                            try clear hfz21_3
                            try clear hfz22_0
                            try clear hfz22_1
                            try clear hfz22_2
                            try clear hfz22_3
                            try clear hfz24_0
                            try clear hfz24_1
                            try clear hfz24_2
                            try clear hfz24_3
                            try clear hfz29_0
                            try clear hfz29_1
                            try clear hfz29_2
                            try clear hfz29_3
                            try clear hfz34_0
                            try clear hfz34_1
                            try clear hfz34_2
                            try clear hfz34_3
                            try clear hfz7_0
                            try clear hfz7_1
                            try clear hfz7_2
                            try clear hfz7_3
                            try clear hfz9_0
                            try clear hfz9_1
                            try clear hfz9_2
                            try clear hfz9_3
                            try clear hx138_0
                            try clear hx138_1
                            try clear hx138_2
                            try clear hx138_3
                            try clear p1
                            try clear p13
                            try clear p138
                            try clear p2
                            try clear q1
                            try clear q13
                            try clear q138
                            obtain ⟨kq, x4_27, rfl, HA, HJ27, BK139, HB⟩ := hcut
                            cases kq with
                            | zero => exact absurd HA.out (by simp [concourseref43_Put.j3])
                            | succ kj27 =>
                              have H := HA.out
                              clear HA
                              simp only [concourseref43_Put.j3] at H
                              by_cases c36 : t140 = true
                              · subst c36
                                have H1 : ((concourseref01_Byte.f ((rd_T24 l0 x5_1).f1)).bind fun t145 => (if x4_27.size + t145.size ≤ 9223372036854775807 then (if t142 = true then ((concourseref02_Put.f kj27 ((rd_T24 l0 x5_1).f3)).bind fun t146 => (if (x4_27 ++ t145).size + t146.size ≤ 9223372036854775807 then (concourseref43_Put.l0 kj27 l0 ((x4_27 ++ t145) ++ t146) (wrap64 (x5_1 + 1))) else (none))) else (concourseref43_Put.l0 kj27 l0 (x4_27 ++ t145) (wrap64 (x5_1 + 1)))) else (none))) = some (r1, r2) := by rw [if_pos rfl] at H; exact H
                                clear H
                                have H := H1
                                clear H1
                                replace H := Option.bind_eq_some_iff.mp H
                                obtain ⟨t145, A370, H⟩ := H
                                replace H : (if x4_27.size + t145.size ≤ 9223372036854775807 then (if t142 = true then ((concourseref02_Put.f kj27 ((rd_T24 l0 x5_1).f3)).bind fun t146 => (if (x4_27 ++ t145).size + t146.size ≤ 9223372036854775807 then (concourseref43_Put.l0 kj27 l0 ((x4_27 ++ t145) ++ t146) (wrap64 (x5_1 + 1))) else (none))) else (concourseref43_Put.l0 kj27 l0 (x4_27 ++ t145) (wrap64 (x5_1 + 1)))) else (none)) = some (r1, r2) := H
                                have A37 := Aside0.mk A370
                                clear A370
                                by_cases c38 : x4_27.size + t145.size ≤ 9223372036854775807
                                · rw [if_pos c38] at H
                                  have c38b0 := eq_true c38
                                  have c38b1 : decide (x4_27.size + t145.size ≤ 9223372036854775807) = true := decide_eq_true c38
                                  try have c38b2 : (9223372036854775807 < x4_27.size + t145.size) = False := eq_false (Nat.not_lt.2 c38)
                                  by_cases c39 : t142 = true
                                  · subst c39
                                    have H1 : ((concourseref02_Put.f kj27 ((rd_T24 l0 x5_1).f3)).bind fun t146 => (if (x4_27 ++ t145).size + t146.size ≤ 9223372036854775807 then (concourseref43_Put.l0 kj27 l0 ((x4_27 ++ t145) ++ t146) (wrap64 (x5_1 + 1))) else (none))) = some (r1, r2) := by rw [if_pos rfl] at H; exact H
                                    clear H
                                    have H := H1
                                    clear H1
                                    replace H := Option.bind_eq_some_iff.mp H
                                    obtain ⟨t146, A400, H⟩ := H
                                    replace H : (if (x4_27 ++ t145).size + t146.size ≤ 9223372036854775807 then (concourseref43_Put.l0 kj27 l0 ((x4_27 ++ t145) ++ t146) (wrap64 (x5_1 + 1))) else (none)) = some (r1, r2) := H
                                    have A40 := Aside0.mk A400
                                    clear A400
                                    by_cases c41 : (x4_27 ++ t145).size + t146.size ≤ 9223372036854775807
                                    · rw [if_pos c41] at H
                                      have c41b0 := eq_true c41
                                      have c41b1 : decide ((x4_27 ++ t145).size + t146.size ≤ 9223372036854775807) = true := decide_eq_true c41
                                      try have c41b2 : (9223372036854775807 < (x4_27 ++ t145).size + t146.size) = False := eq_false (Nat.not_lt.2 c41)
                                      try have c41b3 := c41b2
                                      try simp only [ByteArray.size_append] at c41b3
                                      have H' := Aside0.mk H
                                      clear H
                                      have hcz42_0 : wc.cell? ⟨gb139, 0, none⟩ = some (.int .i64 ((rd_T24 l0 x5_1).f0)) := (blk_cell BK139.out 0).trans rfl
                                      have hcz42_1 : wc.cell? ⟨gb139, 1, none⟩ = some (.int .i64 ((rd_T24 l0 x5_1).f1)) := (blk_cell BK139.out 1).trans rfl
                                      have hcz42_2 : wc.cell? ⟨gb139, 2, none⟩ = some (.int .u64 ((rd_T24 l0 x5_1).f2)) := (blk_cell BK139.out 2).trans rfl
                                      have hcz42_3 : wc.cell? ⟨gb139, 3, none⟩ = some (.string ((rd_T24 l0 x5_1).f3)) := (blk_cell BK139.out 3).trans rfl
                                      have hfz42_0 := blk_frozen BK139.out 0
                                      have hfz42_1 := blk_frozen BK139.out 1
                                      have hfz42_2 := blk_frozen BK139.out 2
                                      have hfz42_3 := blk_frozen BK139.out 3
                                      go_wp2_with (first | ((with_reducible refine gate_callee (f := 20) rfl ?_); refine goesL_ (some 73) rfl rfl Try.func20 (by kernel_rfl) rfl #[.int .i64 ((rd_T24 l0 x5_1).f1)] rfl (by (try simp only [List.map_toArray, List.map_cons, List.map_nil]); first | done | rfl | (simp only [List.length_drop, List.length_take]; rfl)) ?_; (with_reducible refine (concourseref01_Byte.calls ((rd_T24 l0 x5_1).f1) t145 _ A37.out).mono ?_); rintro e w43 ⟨rfl, hb⟩; refine ⟨_, rfl, ?_⟩; have n0_ := Aside0.mk (blk_below (g := gb139) (o := .cells #[.int .i64 ((rd_T24 l0 x5_1).f0), .int .i64 ((rd_T24 l0 x5_1).f1), .int .u64 ((rd_T24 l0 x5_1).f2), .string ((rd_T24 l0 x5_1).f3)] 24 (0, 0)) (by (with_reducible repeat (first | refine blk_drewN ?_ _ | refine blk_drew ?_ | refine blk_alloc ?_ _)); exact BK139.out) hb); have n1_ := Aside0.mk (below_step (by repeat (first | (with_reducible first | exact HB.out | apply below_alloc | apply pw_below_drewN | apply below_drew1 | refine below_set ?_ GE139.out) | exact HB.out)) hb); clear BK139; clear HB; have BK139 := n0_; have HB := n1_; clear n0_ n1_; (try clear hb); (try clear hb2); (try clear hk); (try clear hi); have hcz44_0 : w43.cell? ⟨gb139, 0, none⟩ = some (.int .i64 ((rd_T24 l0 x5_1).f0)) := (blk_cell BK139.out 0).trans rfl; have hcz44_1 : w43.cell? ⟨gb139, 1, none⟩ = some (.int .i64 ((rd_T24 l0 x5_1).f1)) := (blk_cell BK139.out 1).trans rfl; have hcz44_2 : w43.cell? ⟨gb139, 2, none⟩ = some (.int .u64 ((rd_T24 l0 x5_1).f2)) := (blk_cell BK139.out 2).trans rfl; have hcz44_3 : w43.cell? ⟨gb139, 3, none⟩ = some (.string ((rd_T24 l0 x5_1).f3)) := (blk_cell BK139.out 3).trans rfl; have hfz44_0 := blk_frozen BK139.out 0; have hfz44_1 := blk_frozen BK139.out 1; have hfz44_2 := blk_frozen BK139.out 2; have hfz44_3 := blk_frozen BK139.out 3) | ((with_reducible refine gate_callee (f := 22) rfl ?_); refine goesL_ (some 79) rfl rfl Try.func22 (by kernel_rfl) rfl #[.string ((rd_T24 l0 x5_1).f3)] rfl (by (try simp only [List.map_toArray, List.map_cons, List.map_nil]); first | done | rfl | (simp only [List.length_drop, List.length_take]; rfl)) ?_; (with_reducible refine (concourseref02_Put.calls kj27 ((rd_T24 l0 x5_1).f3) t146 _ A40.out).mono ?_); rintro e w45 ⟨rfl, hb⟩; refine ⟨_, rfl, ?_⟩; have n0_ := Aside0.mk (blk_below (g := gb139) (o := .cells #[.int .i64 ((rd_T24 l0 x5_1).f0), .int .i64 ((rd_T24 l0 x5_1).f1), .int .u64 ((rd_T24 l0 x5_1).f2), .string ((rd_T24 l0 x5_1).f3)] 24 (0, 0)) (by (with_reducible repeat (first | refine blk_drewN ?_ _ | refine blk_drew ?_ | refine blk_alloc ?_ _)); exact BK139.out) hb); have n1_ := Aside0.mk (below_step (by repeat (first | (with_reducible first | exact HB.out | apply below_alloc | apply pw_below_drewN | apply below_drew1 | refine below_set ?_ GE139.out) | exact HB.out)) hb); clear BK139; clear HB; have BK139 := n0_; have HB := n1_; clear n0_ n1_; (try clear hb); (try clear hb2); (try clear hk); (try clear hi)))
                                      go_roundg kj27
                                      case measure => have := HK1.out; have := HJ4.out; have := HJ12.out; have := HJ27.out; omega
                                      case rel => exact ⟨((x4_27 ++ t145) ++ t146), (wrap64 (x5_1 + 1)), (by first | rfl | (simp; done) | (simp [*]; done)), (by first | rfl | (simp; done) | (simp [*]; done)), H', ⟨by have := HK1.out; have := HJ4.out; have := HJ12.out; have := HJ27.out; omega⟩, ⟨by repeat (first | (with_reducible first | exact HB.out | apply below_alloc | apply pw_below_drewN | apply below_drew1 | refine below_set ?_ GE139.out) | exact HB.out)⟩⟩
                                    · rw [if_neg c41] at H
                                      exact absurd H (by simp)
                                  · replace c39 := Bool.eq_false_iff.mpr c39
                                    subst c39
                                    have H1 : (concourseref43_Put.l0 kj27 l0 (x4_27 ++ t145) (wrap64 (x5_1 + 1))) = some (r1, r2) := by rw [if_neg (show ¬ (false = true) by decide)] at H; exact H
                                    clear H
                                    have H := H1
                                    clear H1
                                    have H' := Aside0.mk H
                                    clear H
                                    have hcz46_0 : wc.cell? ⟨gb139, 0, none⟩ = some (.int .i64 ((rd_T24 l0 x5_1).f0)) := (blk_cell BK139.out 0).trans rfl
                                    have hcz46_1 : wc.cell? ⟨gb139, 1, none⟩ = some (.int .i64 ((rd_T24 l0 x5_1).f1)) := (blk_cell BK139.out 1).trans rfl
                                    have hcz46_2 : wc.cell? ⟨gb139, 2, none⟩ = some (.int .u64 ((rd_T24 l0 x5_1).f2)) := (blk_cell BK139.out 2).trans rfl
                                    have hcz46_3 : wc.cell? ⟨gb139, 3, none⟩ = some (.string ((rd_T24 l0 x5_1).f3)) := (blk_cell BK139.out 3).trans rfl
                                    have hfz46_0 := blk_frozen BK139.out 0
                                    have hfz46_1 := blk_frozen BK139.out 1
                                    have hfz46_2 := blk_frozen BK139.out 2
                                    have hfz46_3 := blk_frozen BK139.out 3
                                    go_wp2_with (first | ((with_reducible refine gate_callee (f := 20) rfl ?_); refine goesL_ (some 73) rfl rfl Try.func20 (by kernel_rfl) rfl #[.int .i64 ((rd_T24 l0 x5_1).f1)] rfl (by (try simp only [List.map_toArray, List.map_cons, List.map_nil]); first | done | rfl | (simp only [List.length_drop, List.length_take]; rfl)) ?_; (with_reducible refine (concourseref01_Byte.calls ((rd_T24 l0 x5_1).f1) t145 _ A37.out).mono ?_); rintro e w47 ⟨rfl, hb⟩; refine ⟨_, rfl, ?_⟩; have n0_ := Aside0.mk (blk_below (g := gb139) (o := .cells #[.int .i64 ((rd_T24 l0 x5_1).f0), .int .i64 ((rd_T24 l0 x5_1).f1), .int .u64 ((rd_T24 l0 x5_1).f2), .string ((rd_T24 l0 x5_1).f3)] 24 (0, 0)) (by (with_reducible repeat (first | refine blk_drewN ?_ _ | refine blk_drew ?_ | refine blk_alloc ?_ _)); exact BK139.out) hb); have n1_ := Aside0.mk (below_step (by repeat (first | (with_reducible first | exact HB.out | apply below_alloc | apply pw_below_drewN | apply below_drew1 | refine below_set ?_ GE139.out) | exact HB.out)) hb); clear BK139; clear HB; have BK139 := n0_; have HB := n1_; clear n0_ n1_; (try clear hb); (try clear hb2); (try clear hk); (try clear hi)))
                                    go_roundg kj27
                                    case measure => have := HK1.out; have := HJ4.out; have := HJ12.out; have := HJ27.out; omega
                                    case rel => exact ⟨(x4_27 ++ t145), (wrap64 (x5_1 + 1)), (by first | rfl | (simp; done) | (simp [*]; done)), (by first | rfl | (simp; done) | (simp [*]; done)), H', ⟨by have := HK1.out; have := HJ4.out; have := HJ12.out; have := HJ27.out; omega⟩, ⟨by repeat (first | (with_reducible first | exact HB.out | apply below_alloc | apply pw_below_drewN | apply below_drew1 | refine below_set ?_ GE139.out) | exact HB.out)⟩⟩
                                · rw [if_neg c38] at H
                                  exact absurd H (by simp)
                              · replace c36 := Bool.eq_false_iff.mpr c36
                                subst c36
                                have H1 : (if t142 = true then ((concourseref02_Put.f kj27 ((rd_T24 l0 x5_1).f3)).bind fun t147 => (if x4_27.size + t147.size ≤ 9223372036854775807 then (concourseref43_Put.l0 kj27 l0 (x4_27 ++ t147) (wrap64 (x5_1 + 1))) else (none))) else (concourseref43_Put.l0 kj27 l0 x4_27 (wrap64 (x5_1 + 1)))) = some (r1, r2) := by rw [if_neg (show ¬ (false = true) by decide)] at H; exact H
                                clear H
                                have H := H1
                                clear H1
                                by_cases c48 : t142 = true
                                · subst c48
                                  have H1 : ((concourseref02_Put.f kj27 ((rd_T24 l0 x5_1).f3)).bind fun t147 => (if x4_27.size + t147.size ≤ 9223372036854775807 then (concourseref43_Put.l0 kj27 l0 (x4_27 ++ t147) (wrap64 (x5_1 + 1))) else (none))) = some (r1, r2) := by rw [if_pos rfl] at H; exact H
                                  clear H
                                  have H := H1
                                  clear H1
                                  replace H := Option.bind_eq_some_iff.mp H
                                  obtain ⟨t147, A490, H⟩ := H
                                  replace H : (if x4_27.size + t147.size ≤ 9223372036854775807 then (concourseref43_Put.l0 kj27 l0 (x4_27 ++ t147) (wrap64 (x5_1 + 1))) else (none)) = some (r1, r2) := H
                                  have A49 := Aside0.mk A490
                                  clear A490
                                  by_cases c50 : x4_27.size + t147.size ≤ 9223372036854775807
                                  · rw [if_pos c50] at H
                                    have c50b0 := eq_true c50
                                    have c50b1 : decide (x4_27.size + t147.size ≤ 9223372036854775807) = true := decide_eq_true c50
                                    try have c50b2 : (9223372036854775807 < x4_27.size + t147.size) = False := eq_false (Nat.not_lt.2 c50)
                                    have H' := Aside0.mk H
                                    clear H
                                    have hcz51_0 : wc.cell? ⟨gb139, 0, none⟩ = some (.int .i64 ((rd_T24 l0 x5_1).f0)) := (blk_cell BK139.out 0).trans rfl
                                    have hcz51_1 : wc.cell? ⟨gb139, 1, none⟩ = some (.int .i64 ((rd_T24 l0 x5_1).f1)) := (blk_cell BK139.out 1).trans rfl
                                    have hcz51_2 : wc.cell? ⟨gb139, 2, none⟩ = some (.int .u64 ((rd_T24 l0 x5_1).f2)) := (blk_cell BK139.out 2).trans rfl
                                    have hcz51_3 : wc.cell? ⟨gb139, 3, none⟩ = some (.string ((rd_T24 l0 x5_1).f3)) := (blk_cell BK139.out 3).trans rfl
                                    have hfz51_0 := blk_frozen BK139.out 0
                                    have hfz51_1 := blk_frozen BK139.out 1
                                    have hfz51_2 := blk_frozen BK139.out 2
                                    have hfz51_3 := blk_frozen BK139.out 3
                                    go_wp2_with (first | ((with_reducible refine gate_callee (f := 22) rfl ?_); refine goesL_ (some 79) rfl rfl Try.func22 (by kernel_rfl) rfl #[.string ((rd_T24 l0 x5_1).f3)] rfl (by (try simp only [List.map_toArray, List.map_cons, List.map_nil]); first | done | rfl | (simp only [List.length_drop, List.length_take]; rfl)) ?_; (with_reducible refine (concourseref02_Put.calls kj27 ((rd_T24 l0 x5_1).f3) t147 _ A49.out).mono ?_); rintro e w52 ⟨rfl, hb⟩; refine ⟨_, rfl, ?_⟩; have n0_ := Aside0.mk (blk_below (g := gb139) (o := .cells #[.int .i64 ((rd_T24 l0 x5_1).f0), .int .i64 ((rd_T24 l0 x5_1).f1), .int .u64 ((rd_T24 l0 x5_1).f2), .string ((rd_T24 l0 x5_1).f3)] 24 (0, 0)) (by (with_reducible repeat (first | refine blk_drewN ?_ _ | refine blk_drew ?_ | refine blk_alloc ?_ _)); exact BK139.out) hb); have n1_ := Aside0.mk (below_step (by repeat (first | (with_reducible first | exact HB.out | apply below_alloc | apply pw_below_drewN | apply below_drew1 | refine below_set ?_ GE139.out) | exact HB.out)) hb); clear BK139; clear HB; have BK139 := n0_; have HB := n1_; clear n0_ n1_; (try clear hb); (try clear hb2); (try clear hk); (try clear hi)))
                                    go_roundg kj27
                                    case measure => have := HK1.out; have := HJ4.out; have := HJ12.out; have := HJ27.out; omega
                                    case rel => exact ⟨(x4_27 ++ t147), (wrap64 (x5_1 + 1)), (by first | rfl | (simp; done) | (simp [*]; done)), (by first | rfl | (simp; done) | (simp [*]; done)), H', ⟨by have := HK1.out; have := HJ4.out; have := HJ12.out; have := HJ27.out; omega⟩, ⟨by repeat (first | (with_reducible first | exact HB.out | apply below_alloc | apply pw_below_drewN | apply below_drew1 | refine below_set ?_ GE139.out) | exact HB.out)⟩⟩
                                  · rw [if_neg c50] at H
                                    exact absurd H (by simp)
                                · replace c48 := Bool.eq_false_iff.mpr c48
                                  subst c48
                                  have H1 : (concourseref43_Put.l0 kj27 l0 x4_27 (wrap64 (x5_1 + 1))) = some (r1, r2) := by rw [if_neg (show ¬ (false = true) by decide)] at H; exact H
                                  clear H
                                  have H := H1
                                  clear H1
                                  have H' := Aside0.mk H
                                  clear H
                                  go_wp2
                                  go_roundg kj27
                                  case measure => have := HK1.out; have := HJ4.out; have := HJ12.out; have := HJ27.out; omega
                                  case rel => exact ⟨(x4_27), (wrap64 (x5_1 + 1)), (by first | rfl | (simp; done) | (simp [*]; done)), (by first | rfl | (simp; done) | (simp [*]; done)), H', ⟨by have := HK1.out; have := HJ4.out; have := HJ12.out; have := HJ27.out; omega⟩, ⟨by repeat (first | (with_reducible first | exact HB.out | apply below_alloc | apply pw_below_drewN | apply below_drew1 | refine below_set ?_ GE139.out) | exact HB.out)⟩⟩
                        · rw [if_neg c27] at H
                          exact absurd H (by simp)
          · rw [if_neg c4] at H
            exact absurd H (by simp)
        · rw [if_neg c3] at H
          have c3b0 : decide (x5_1 < (l0.length : Int)) = false := decide_eq_false c3
          clear c3
          simp only [Option.some.injEq, Prod.mk.injEq] at H
          obtain ⟨rfl, rfl⟩ := H
          go_wp2
          go_ret2
          exact ⟨by first | rfl | (simp [errW_none, errW_some] <;> rfl) | (simp [*, errW_none, errW_some] <;> rfl), by repeat (first | (with_reducible first | exact HB.out | apply below_alloc | apply pw_below_drewN | apply below_drew1) | exact HB.out)⟩

end Go.Proofs.Ytklfpiapnhnhkaa.PScriptPuts
