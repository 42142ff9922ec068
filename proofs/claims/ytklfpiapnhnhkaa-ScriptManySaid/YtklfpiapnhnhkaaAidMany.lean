/- A slice of events among a law's arguments, opened as a list of events as the printed walks read it; an event by value. No conditions. -/
import Derived.Deep.Slices
import Derived.Deep.Fields
import Derived.ChangeSame
import Derived.Lib.SmallJoins
import Derived.Test.YtklfpiapnhnhkaaPScriptManyx0
namespace Go.Proofs.Ytklfpiapnhnhkaa.AidS
open Go.RowKit Go.Joins Go.ChangeShapes Go.WideShapes Go.Deep Go.Proofs.YtklfpiapnhnhkaaW.PrintWords Go.Proofs.YtklfpiapnhnhkaaW.PrintLast Go.Proofs.YtklfpiapnhnhkaaW.PrintMore Go.Proofs.Ytklfpiapnhnhkaa.PScriptMany
set_option linter.unusedSimpArgs false
set_option linter.unusedVariables false
section
variable {H : Type} {enc : TypeId × Value → H} {W : World} {base : Nat} {a : Option Addr} {len cap : Nat} {d : DataW H} {ps : List MemPlace}
def Wfe (v : S24) : Prop := (Lit.int .i64 v.f0).wf = true ∧ (Lit.int .i64 v.f1).wf = true ∧ (Lit.int .u64 v.f2).wf = true
/-- The four cells of an event, and its numbers of their kinds. -/
def CellsOf (W : World) (x : Addr) (i : Nat) (v : S24) : Prop :=
  W.cell? (x.add (i * 4 + 0)) = some (.int .i64 v.f0) ∧ W.cell? (x.add (i * 4 + 1)) = some (.int .i64 v.f1) ∧ W.cell? (x.add (i * 4 + 2)) = some (.int .u64 v.f2) ∧ W.cell? (x.add (i * 4 + 3)) = some (.string v.f3) ∧ Wfe v
theorem one_event {x : Addr} {i m : Nat} {y : DataW H × List MemPlace} (hc : ∃ cs', W.cells? base (x.add (i * Try.prog.cellsOf 24)) (Try.prog.cellsOf 24) = some cs' ∧ DataW.trod enc Try.prog W base (fun _ => true) true m 24 cs' = some y) :
    ∃ v : S24, CellsOf W x i v := by
  obtain ⟨cs', hc, ht'⟩ := hc
  rw [show Try.prog.cellsOf 24 = 4 by kernel_rfl] at hc
  obtain ⟨ys, n', hn', hy, hlen, hyl, hf⟩ := DataW.trod_struct Try.underlying24 ht'
  obtain ⟨_, hcl, hat⟩ := World.cells?_some hc
  have hone : oneCellFields Try.prog #[{ name := "Kind", type := 3, offset := 0, embedded := false, tag := "", pkgPath := "", byteOffset := 0 },
          { name := "Conn", type := 3, offset := 1, embedded := false, tag := "", pkgPath := "", byteOffset := 8 },
          { name := "Num", type := 22, offset := 2, embedded := false, tag := "", pkgPath := "", byteOffset := 16 },
          { name := "Bytes", type := 9, offset := 3, embedded := false, tag := "", pkgPath := "", byteOffset := 24 }] = true := by kernel_rfl
  obtain ⟨o0, k0⟩ := hone_of hone 0 _ rfl
  obtain ⟨o1, k1⟩ := hone_of hone 1 _ rfl
  obtain ⟨o2, k2⟩ := hone_of hone 2 _ rfl
  obtain ⟨o3, k3⟩ := hone_of hone 3 _ rfl
  have g0 := hf 0 _ rfl
  have g1 := hf 1 _ rfl
  have g2 := hf 2 _ rfl
  have g3 := hf 3 _ rfl
  rw [k0] at g0
  rw [k1] at g1
  rw [k2] at g2
  rw [k3] at g3
  match cs', hcl with
  | [u0, u1, u2, u3], _ =>
    have e0 := hat 0 (by decide)
    have e1 := hat 1 (by decide)
    have e2 := hat 2 (by decide)
    have e3 := hat 3 (by decide)
    match ys, hyl with
    | [y0, y1, y2, y3], _ =>
      obtain ⟨n0, hn0, _, wf0⟩ := DataW.trod_int Try.underlying3 g0
      obtain ⟨n1, hn1, _, wf1⟩ := DataW.trod_int Try.underlying3 g1
      obtain ⟨n2, hn2, _, wf2⟩ := DataW.trod_int Try.underlying22 g2
      obtain ⟨s3, hs3, _, _⟩ := DataW.trod_string Try.underlying9 g3
      simp at hn0 hn1 hn2 hs3
      subst hn0; subst hn1; subst hn2; subst hs3
      refine ⟨⟨n0, n1, n2, s3⟩, ?_, ?_, ?_, ?_, wf0, wf1, wf2⟩
      · rw [← Go.Deep.add_add]; simpa using e0
      · rw [← Go.Deep.add_add]; simpa using e1
      · rw [← Go.Deep.add_add]; simpa using e2
      · rw [← Go.Deep.add_add]; simpa using e3
theorem open_events (h : DataW.Trod enc Try.prog W base (fun _ => true) true 29 (.slice a len cap) d ps) :
    ∃ l : List S24, l.length = len ∧ len ≤ cap ∧ len ≤ 9223372036854775807 ∧ Kd.C k24 W a l.length l ∧ ∀ v ∈ l, Wfe v := by
  obtain ⟨fuel, hf⟩ := h
  rcases open_slice Try.underlying29 hf with ⟨hcs, _⟩ | ⟨x, l, c, m, n, D, Pl, hcs, _, hl, hm, hmm, hx, hi⟩
  · simp [Value.cells] at hcs
    obtain ⟨rfl, rfl, rfl⟩ := hcs
    exact ⟨[], rfl, Nat.le_refl _, by omega, Kd.C_nil _ _, by simp⟩
  · simp [Value.cells] at hcs
    obtain ⟨rfl, rfl, rfl⟩ := hcs
    have hmc : m = cap := by simpa using hmm
    subst hmc
    unfold maxLen at hm
    have hex : ∀ i, ∃ v : S24, i < m → CellsOf W x i v := by
      intro i
      by_cases him : i < m
      · obtain ⟨v, hv⟩ := one_event (hi i him)
        exact ⟨v, fun _ => hv⟩
      · exact ⟨z24, fun h => absurd h him⟩
    obtain ⟨f, hfv⟩ := Classical.axiomOfChoice hex
    have hlen : ((List.range len).map f).length = len := by simp
    refine ⟨(List.range len).map f, hlen, hl, by omega, ?_, ?_⟩
    · rw [hlen]
      refine ⟨hlen, by omega, fun _ => ⟨_, rfl, fun j p hj => ?_⟩⟩
      have hjl : j < len := by
        rcases Nat.lt_or_ge j len with h | h
        · exact h
        · rw [List.getElem?_eq_none (by rw [hlen]; exact h)] at hj; cases hj
      rw [List.getElem?_map, List.getElem?_range hjl] at hj
      simp at hj
      subst hj
      obtain ⟨c0, c1, c2, c3, _⟩ := hfv j (by omega)
      refine ⟨_, rfl, k24_mk W (f j), fun i u hu => ?_⟩
      match i, hu with
      | 0, hu => simp at hu; subst hu; exact c0
      | 1, hu => simp at hu; subst hu; exact c1
      | 2, hu => simp at hu; subst hu; exact c2
      | 3, hu => simp at hu; subst hu; exact c3
    · intro v hv
      obtain ⟨j, hj, rfl⟩ := List.mem_map.1 hv
      exact (hfv j (by have := List.mem_range.1 hj; omega)).2.2.2.2
theorem open_event {v : Value} (hv : Value.okWide Try.prog W .any base 24 v) (h : DataW.Trod enc Try.prog W 0 (fun _ => true) true 24 v d ps) :
    ∃ x : S24, v = .agg #[.int .i64 x.f0, .int .i64 x.f1, .int .u64 x.f2, .string x.f3] ∧ Wfe x := by
  obtain ⟨v0, v1, v2, v3, y0, y1, y2, y3, n, rfl, _, _, g0, g1, g2, g3⟩ := open_agg4 Try.underlying24 (by kernel_rfl) (by kernel_rfl) hv h
  obtain ⟨n0, hn0, _, wf0⟩ := DataW.trod_int Try.underlying3 g0
  obtain ⟨n1, hn1, _, wf1⟩ := DataW.trod_int Try.underlying3 g1
  obtain ⟨n2, hn2, _, wf2⟩ := DataW.trod_int Try.underlying22 g2
  obtain ⟨s3, hs3, _, _⟩ := DataW.trod_string Try.underlying9 g3
  simp at hn0 hn1 hn2 hs3
  subst hn0; subst hn1; subst hn2; subst hs3
  exact ⟨⟨n0, n1, n2, s3⟩, rfl, wf0, wf1, wf2⟩
end
end Go.Proofs.Ytklfpiapnhnhkaa.AidS
