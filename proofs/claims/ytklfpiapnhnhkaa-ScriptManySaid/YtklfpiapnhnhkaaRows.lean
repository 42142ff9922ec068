/-
  No cell of these rows narrows 'for every input' (looked for: loops, veiled, ifaces, maps, wideKeys, modest, calm, conditions, laid).
  DERIVED. THE GIVEN ROWS OF THIS SEAT. 4 by the template 'for every input the law returns true; each argument reads behind the call as it read before'; 0 by the template 'total and deterministic' (their statements: YtklfpiapnhnhkaaTotals.lean).
  GIVEN WITH THE SEED: the statements are not yours to turn. If you find one false, say at which input.
  Laid BY PROGRAM, IN A SANDBOX (cutbox-rows.mjs): the forced cells as the released guide's own fill.sh prints them over the translation f2a125d27e0cd4cc… (all of the seat's roots in one cut). By AI agents, Wed Nov 11 2026. No macro, syntax, notation, axiom, sorry.
-/
import Derived.Test.YtklfpiapnhnhkaaChecked
import GoSem.Claim
import GoSem.ClaimJoined
import GoSem.ClaimMapViews
import Derived.JoinedTies
import Derived.KernelRfl
namespace Go.Proofs.Ytklfpiapnhnhkaa
/- THE CELL 'sum', in the pinned program and in every row, IS THE sha256 OF THE DUMP (.gsa) THAT YtklfpiapnhnhkaaProg.lean LOADS. Nothing in Lean hashes anything: it is a label: what it is worth is what the hold of that sum in a sandbox is worth. -/
noncomputable def Try.pinned : Pinned := { name := "ytklfpiapnhnhkaa", sum := "f2a125d27e0cd4cc0891936de03d54ca1c70888e880c4f84ea21be04e47fb2de", checked := Try.checked }
namespace Rows
def none {H : Type} : Left H := { results := [], args := [] }

/-- 'concourselaw43.ScriptMany': WHATEVER THE INPUT: true; the input reads as it did. -/
def scriptManySpec : ChangeSpec := { name := "scriptMany", fn := fun _ => fun
  | [d1, d2] => { results := [.lit (.bool true)], args := [d1, d2] }
  | _ => none }
def scriptManyRow : OpenClaim := { program := "ytklfpiapnhnhkaa", sum := "f2a125d27e0cd4cc0891936de03d54ca1c70888e880c4f84ea21be04e47fb2de", func := "concourse/concourselaw43.ScriptMany", spec := "scriptMany", inPlace := ["internal/abi.NoEscape"], apart := false }
def ScriptManySaid : Prop := scriptManyRow.holds Try.pinned (OpenSpec.ofChange scriptManySpec)

/-- ITS FALSE NEIGHBOUR: 'it returns false'. Refute it at one input. -/
def scriptManyWrong : ChangeSpec := { name := "scriptMany", fn := fun _ => fun
  | [d1, d2] => { results := [.lit (.bool false)], args := [d1, d2] }
  | _ => none }
def ScriptManyWrongFalsely : Prop := scriptManyRow.holds Try.pinned (OpenSpec.ofChange scriptManyWrong)

/-- 'concourselaw43.ScriptPuts': WHATEVER THE INPUT: true; the input reads as it did. -/
def scriptPutsSpec : ChangeSpec := { name := "scriptPuts", fn := fun _ => fun
  | [d] => { results := [.lit (.bool true)], args := [d] }
  | _ => none }
def scriptPutsRow : OpenClaim := { program := "ytklfpiapnhnhkaa", sum := "f2a125d27e0cd4cc0891936de03d54ca1c70888e880c4f84ea21be04e47fb2de", func := "concourse/concourselaw43.ScriptPuts", spec := "scriptPuts", inPlace := ["internal/abi.NoEscape"], recurses := true, apart := false }
def ScriptPutsSaid : Prop := scriptPutsRow.holds Try.pinned (OpenSpec.ofChange scriptPutsSpec)

/-- ITS FALSE NEIGHBOUR: 'it returns false'. Refute it at one input. -/
def scriptPutsWrong : ChangeSpec := { name := "scriptPuts", fn := fun _ => fun
  | [d] => { results := [.lit (.bool false)], args := [d] }
  | _ => none }
def ScriptPutsWrongFalsely : Prop := scriptPutsRow.holds Try.pinned (OpenSpec.ofChange scriptPutsWrong)

/-- 'concourselaw43.ScriptTakes': WHATEVER THE INPUT: true; the input reads as it did. -/
def scriptTakesSpec : ChangeSpec := { name := "scriptTakes", fn := fun _ => fun
  | [d] => { results := [.lit (.bool true)], args := [d] }
  | _ => none }
def scriptTakesRow : OpenClaim := { program := "ytklfpiapnhnhkaa", sum := "f2a125d27e0cd4cc0891936de03d54ca1c70888e880c4f84ea21be04e47fb2de", func := "concourse/concourselaw43.ScriptTakes", spec := "scriptTakes", inPlace := ["internal/abi.NoEscape"], apart := false }
def ScriptTakesSaid : Prop := scriptTakesRow.holds Try.pinned (OpenSpec.ofChange scriptTakesSpec)

/-- ITS FALSE NEIGHBOUR: 'it returns false'. Refute it at one input. -/
def scriptTakesWrong : ChangeSpec := { name := "scriptTakes", fn := fun _ => fun
  | [d] => { results := [.lit (.bool false)], args := [d] }
  | _ => none }
def ScriptTakesWrongFalsely : Prop := scriptTakesRow.holds Try.pinned (OpenSpec.ofChange scriptTakesWrong)

/-- 'concourselaw43.ScriptBack': WHATEVER THE INPUT: true; the input reads as it did. -/
def scriptBackSpec : ChangeSpec := { name := "scriptBack", fn := fun _ => fun
  | [d1, d2] => { results := [.lit (.bool true)], args := [d1, d2] }
  | _ => none }
def scriptBackRow : OpenClaim := { program := "ytklfpiapnhnhkaa", sum := "f2a125d27e0cd4cc0891936de03d54ca1c70888e880c4f84ea21be04e47fb2de", func := "concourse/concourselaw43.ScriptBack", spec := "scriptBack", inPlace := ["internal/abi.NoEscape"], apart := false }
def ScriptBackSaid : Prop := scriptBackRow.holds Try.pinned (OpenSpec.ofChange scriptBackSpec)

/-- ITS FALSE NEIGHBOUR: 'it returns false'. Refute it at one input. -/
def scriptBackWrong : ChangeSpec := { name := "scriptBack", fn := fun _ => fun
  | [d1, d2] => { results := [.lit (.bool false)], args := [d1, d2] }
  | _ => none }
def ScriptBackWrongFalsely : Prop := scriptBackRow.holds Try.pinned (OpenSpec.ofChange scriptBackWrong)

/- THE SECOND FORM. 'bulk': how many values and letters a reading holds, each counted each time it is reached (what is shared counts as often as it is met; a slice's spare places count too). A statement '..UptoSaid' is the law's where the arguments, and the package variables that the reading takes, are together of bulk at most 1048576: NARROWER than '..Said'. Prove '..Said' where nothing that the law and all that it calls make is longer than what came in: it says more and counts as full. Else prove '..UptoSaid'. A law counts once. -/
mutual
def uptoBulk {H : Type} : DataW H → Nat
  | .lit (.string bytes) => bytes.length + 1
  | .lit _ => 1
  | .nil => 1
  | .ptr d => uptoBulk d + 1
  | .slice elems spare => uptoBulkAll elems + uptoBulkAll spare + 1
  | .agg parts => uptoBulkAll parts + 1
  | .iface _ d => uptoBulk d + 1
  | .map entries => uptoBulkEntries entries + 1
  | .held _ => 1
def uptoBulkAll {H : Type} : List (DataW H) → Nat
  | [] => 0
  | d :: r => uptoBulk d + uptoBulkAll r
def uptoBulkEntries {H : Type} : List (Lit × DataW H) → Nat
  | [] => 0
  | x :: r => uptoBulkEntry x + uptoBulkEntries r
def uptoBulkEntry {H : Type} : Lit × DataW H → Nat
  | (.string bytes, d) => bytes.length + uptoBulk d + 1
  | (_, d) => uptoBulk d + 1
 end
def uptoSmall : (H : Type) → List (DataW H) → Bool := fun _ ds => decide (uptoBulkAll ds ≤ 1048576)
def OpenSpec.upto (s : _root_.Go.ChangeSpec) : _root_.Go.OpenSpec := { _root_.Go.OpenSpec.ofChange s with cond := some uptoSmall }

/-- 'concourselaw43.ScriptMany', WHERE WHAT IT READS IS OF BULK AT MOST 1048576: true; the input reads as it did. -/
def scriptManyUptoRow : OpenClaim := { program := "ytklfpiapnhnhkaa", sum := "f2a125d27e0cd4cc0891936de03d54ca1c70888e880c4f84ea21be04e47fb2de", func := "concourse/concourselaw43.ScriptMany", spec := "scriptMany", inPlace := ["internal/abi.NoEscape"], apart := false, narrowed := true }
def ScriptManyUptoSaid : Prop := scriptManyUptoRow.holds Try.pinned (OpenSpec.upto scriptManySpec)

/-- 'concourselaw43.ScriptPuts', WHERE WHAT IT READS IS OF BULK AT MOST 1048576: true; the input reads as it did. -/
def scriptPutsUptoRow : OpenClaim := { program := "ytklfpiapnhnhkaa", sum := "f2a125d27e0cd4cc0891936de03d54ca1c70888e880c4f84ea21be04e47fb2de", func := "concourse/concourselaw43.ScriptPuts", spec := "scriptPuts", inPlace := ["internal/abi.NoEscape"], recurses := true, apart := false, narrowed := true }
def ScriptPutsUptoSaid : Prop := scriptPutsUptoRow.holds Try.pinned (OpenSpec.upto scriptPutsSpec)

/-- 'concourselaw43.ScriptTakes', WHERE WHAT IT READS IS OF BULK AT MOST 1048576: true; the input reads as it did. -/
def scriptTakesUptoRow : OpenClaim := { program := "ytklfpiapnhnhkaa", sum := "f2a125d27e0cd4cc0891936de03d54ca1c70888e880c4f84ea21be04e47fb2de", func := "concourse/concourselaw43.ScriptTakes", spec := "scriptTakes", inPlace := ["internal/abi.NoEscape"], apart := false, narrowed := true }
def ScriptTakesUptoSaid : Prop := scriptTakesUptoRow.holds Try.pinned (OpenSpec.upto scriptTakesSpec)

/-- 'concourselaw43.ScriptBack', WHERE WHAT IT READS IS OF BULK AT MOST 1048576: true; the input reads as it did. -/
def scriptBackUptoRow : OpenClaim := { program := "ytklfpiapnhnhkaa", sum := "f2a125d27e0cd4cc0891936de03d54ca1c70888e880c4f84ea21be04e47fb2de", func := "concourse/concourselaw43.ScriptBack", spec := "scriptBack", inPlace := ["internal/abi.NoEscape"], apart := false, narrowed := true }
def ScriptBackUptoSaid : Prop := scriptBackUptoRow.holds Try.pinned (OpenSpec.upto scriptBackSpec)

end Rows
end Go.Proofs.Ytklfpiapnhnhkaa
