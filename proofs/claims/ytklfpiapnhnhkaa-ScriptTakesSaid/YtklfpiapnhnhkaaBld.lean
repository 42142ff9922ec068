/- A strings.Builder of the call's own, at this dump: it stays one while other memory is made; what is written stands behind what it holds; its string. No conditions but those that each states. -/
import Derived.Test.YtklfpiapnhnhkaaShelf
import Derived.Test.YtklfpiapnhnhkaaWWords
namespace Go.Proofs.Ytklfpiapnhnhkaa.Bld
open Go.RowKit Go.Proofs.YtklfpiapnhnhkaaW.PrintWords
set_option linter.unusedVariables false
theorem setCell_drewN (w : World) (n : Nat) (a : Addr) (v : Value) : (w.drewN n).setCell a v = (w.setCell a v).drewN n := rfl
theorem alloc_drewN (w : World) (n : Nat) (o : Obj) : (w.drewN n).alloc o = (w.alloc o).drewN n := rfl
theorem at_below {T e : TypeId} {B b : Nat} {p : Value} {bs : List Value} {w W : World} (h : Lib.BuilderAt T e B b p bs w) (hb : Below w.heap.size w W) : Lib.BuilderAt T e B b p bs W := by
  obtain ⟨hB, v, hbk, hown, hne⟩ := h
  refine ⟨hB, v, blk_below hbk hb, ⟨hown.1, ?_⟩, hne⟩
  rcases hown.2 with h0 | ⟨g, cap, cur, h1, h2, h3, h4⟩
  · exact .inl h0
  · exact .inr ⟨g, cap, cur, h1, h2, blk_below h3 hb, h4⟩
theorem is_below {T e : TypeId} {B b : Nat} {bs : List Value} {w W : World} (h : Lib.IsBuilder T e B b bs w) (hb : Below w.heap.size w W) : Lib.IsBuilder T e B b bs W := by
  rcases h with h | h
  · exact .inl (at_below h hb)
  · exact .inr (at_below h hb)
theorem is_fresh {B g : Nat} {W : World} (hB : B ≤ g) (h : W.heap[g]? = some (.cells #[.pointer none, .slice none 0 0] 41 (0, 0))) : Lib.IsBuilder 41 5 B g (Lib.byteCells (⟨#[]⟩ : ByteArray).data.toList) W :=
  .inl ⟨hB, .slice none 0 0, h, World.ownsRow_nil _ _ _ _, by simp [Value.ownBlock]⟩
theorem bld_write (B b : Nat) (s t : ByteArray) (w : World) (h : Lib.IsBuilder 41 5 B b (Lib.byteCells s.data.toList) w) (hlen : s.size + t.size ≤ 140737488355328) (hBw : B ≤ w.heap.size) :
    Calls Try.prog 16 #[.pointer (some ⟨b, 0, none⟩), .string t] w fun e w' => e = .returned (.tuple #[.int .i64 t.size, .nilIface]) ∧ Lib.IsBuilder 41 5 B b (Lib.byteCells (s ++ t).data.toList) w' ∧ Below B w w' := by
  refine (Try.Builder_WriteString B b _ t w h (by rw [Lib.byteCells_length, Array.length_toList]; exact hlen) hBw).mono ?_
  rintro e w' ⟨he, h1, h2⟩
  refine ⟨he, .inr ?_, h2⟩
  rw [ByteArray.toList_data_append]
  unfold Lib.byteCells at h1 ⊢
  rw [List.map_append]
  exact h1
theorem bld_string (B b : Nat) (s : ByteArray) (w : World) (h : Lib.IsBuilder 41 5 B b (Lib.byteCells s.data.toList) w) (hBw : B ≤ w.heap.size) :
    Calls Try.prog 17 #[.pointer (some ⟨b, 0, none⟩)] w fun e w' => e = .returned (.string s) ∧ Below B w w' := by
  refine (Try.Builder_String_any B b _ w h hBw).mono ?_
  rintro e w' ⟨he, h2⟩
  rw [show (⟨s.data.toList.toArray⟩ : ByteArray) = s by cases s; simp] at he
  exact ⟨he, h2⟩
end Go.Proofs.Ytklfpiapnhnhkaa.Bld
