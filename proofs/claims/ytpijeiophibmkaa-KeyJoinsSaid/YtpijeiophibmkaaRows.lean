/-
  No cell of these rows narrows 'for every input' (looked for: loops, veiled, ifaces, maps, wideKeys, modest, calm, conditions, laid).
  DERIVED. THE GIVEN ROWS OF THIS SEAT. 4 by the template 'for every input the law returns true; each argument reads behind the call as it read before'; 0 by the template 'total and deterministic' (their statements: YtpijeiophibmkaaTotals.lean).
  GIVEN WITH THE SEED: the statements are not yours to turn. If you find one false, say at which input.
  Laid BY PROGRAM, IN A SANDBOX (cutbox-rows.mjs): the forced cells as the released guide's own fill.sh prints them over the translation 19781d47d9b59e7b… (all of the seat's roots in one cut). By AI agents, Wed Nov 11 2026. No macro, syntax, notation, axiom, sorry.
-/
import Derived.Test.YtpijeiophibmkaaChecked
import GoSem.Claim
import GoSem.ClaimJoined
import GoSem.ClaimMapViews
import Derived.JoinedTies
import Derived.KernelRfl
namespace Go.Proofs.Ytpijeiophibmkaa
/- THE CELL 'sum', in the pinned program and in every row, IS THE sha256 OF THE DUMP (.gsa) THAT YtpijeiophibmkaaProg.lean LOADS. Nothing in Lean hashes anything: it is a label: what it is worth is what the hold of that sum in a sandbox is worth. -/
noncomputable def Try.pinned : Pinned := { name := "ytpijeiophibmkaa", sum := "19781d47d9b59e7b13a32cef898649fb8039a91a364b9820414080884606f945", checked := Try.checked }
namespace Rows
def none {H : Type} : Left H := { results := [], args := [] }

/-- 'concourselaw04.KeyJoins': WHATEVER THE INPUT: true; the input reads as it did. -/
def keyJoinsSpec : ChangeSpec := { name := "keyJoins", fn := fun _ => fun
  | [d1, d2] => { results := [.lit (.bool true)], args := [d1, d2] }
  | _ => none }
def keyJoinsRow : OpenClaim := { program := "ytpijeiophibmkaa", sum := "19781d47d9b59e7b13a32cef898649fb8039a91a364b9820414080884606f945", func := "concourse/concourselaw04.KeyJoins", spec := "keyJoins", recurses := true, apart := false }
def KeyJoinsSaid : Prop := keyJoinsRow.holds Try.pinned (OpenSpec.ofChange keyJoinsSpec)

/-- ITS FALSE NEIGHBOUR: 'it returns false'. Refute it at one input. -/
def keyJoinsWrong : ChangeSpec := { name := "keyJoins", fn := fun _ => fun
  | [d1, d2] => { results := [.lit (.bool false)], args := [d1, d2] }
  | _ => none }
def KeyJoinsWrongFalsely : Prop := keyJoinsRow.holds Try.pinned (OpenSpec.ofChange keyJoinsWrong)

/-- 'concourselaw04.KeyPuts': WHATEVER THE INPUT: true; the input reads as it did. -/
def keyPutsSpec : ChangeSpec := { name := "keyPuts", fn := fun _ => fun
  | [d1, d2, d3] => { results := [.lit (.bool true)], args := [d1, d2, d3] }
  | _ => none }
def keyPutsRow : OpenClaim := { program := "ytpijeiophibmkaa", sum := "19781d47d9b59e7b13a32cef898649fb8039a91a364b9820414080884606f945", func := "concourse/concourselaw04.KeyPuts", spec := "keyPuts", recurses := true, apart := false }
def KeyPutsSaid : Prop := keyPutsRow.holds Try.pinned (OpenSpec.ofChange keyPutsSpec)

/-- ITS FALSE NEIGHBOUR: 'it returns false'. Refute it at one input. -/
def keyPutsWrong : ChangeSpec := { name := "keyPuts", fn := fun _ => fun
  | [d1, d2, d3] => { results := [.lit (.bool false)], args := [d1, d2, d3] }
  | _ => none }
def KeyPutsWrongFalsely : Prop := keyPutsRow.holds Try.pinned (OpenSpec.ofChange keyPutsWrong)

/-- 'concourselaw04.KeySplits': WHATEVER THE INPUT: true; the input reads as it did. -/
def keySplitsSpec : ChangeSpec := { name := "keySplits", fn := fun _ => fun
  | [d1, d2] => { results := [.lit (.bool true)], args := [d1, d2] }
  | _ => none }
def keySplitsRow : OpenClaim := { program := "ytpijeiophibmkaa", sum := "19781d47d9b59e7b13a32cef898649fb8039a91a364b9820414080884606f945", func := "concourse/concourselaw04.KeySplits", spec := "keySplits", apart := false }
def KeySplitsSaid : Prop := keySplitsRow.holds Try.pinned (OpenSpec.ofChange keySplitsSpec)

/-- ITS FALSE NEIGHBOUR: 'it returns false'. Refute it at one input. -/
def keySplitsWrong : ChangeSpec := { name := "keySplits", fn := fun _ => fun
  | [d1, d2] => { results := [.lit (.bool false)], args := [d1, d2] }
  | _ => none }
def KeySplitsWrongFalsely : Prop := keySplitsRow.holds Try.pinned (OpenSpec.ofChange keySplitsWrong)

/-- 'concourselaw04.KeyBack': WHATEVER THE INPUT: true; the input reads as it did. -/
def keyBackSpec : ChangeSpec := { name := "keyBack", fn := fun _ => fun
  | [d1, d2] => { results := [.lit (.bool true)], args := [d1, d2] }
  | _ => none }
def keyBackRow : OpenClaim := { program := "ytpijeiophibmkaa", sum := "19781d47d9b59e7b13a32cef898649fb8039a91a364b9820414080884606f945", func := "concourse/concourselaw04.KeyBack", spec := "keyBack", apart := false }
def KeyBackSaid : Prop := keyBackRow.holds Try.pinned (OpenSpec.ofChange keyBackSpec)

/-- ITS FALSE NEIGHBOUR: 'it returns false'. Refute it at one input. -/
def keyBackWrong : ChangeSpec := { name := "keyBack", fn := fun _ => fun
  | [d1, d2] => { results := [.lit (.bool false)], args := [d1, d2] }
  | _ => none }
def KeyBackWrongFalsely : Prop := keyBackRow.holds Try.pinned (OpenSpec.ofChange keyBackWrong)

/- THE SECOND FORM. 'bulk': how many values and letters a reading holds, each counted each time it is reached (what is shared counts as often as it is met; a slice's spare places count too). A statement '..UptoSaid' is the law's where the arguments, and the package variables that the reading takes, are together of bulk at most 1048576: NARROWER than '..Said'. Prove '..Said' where nothing that the law and all that it calls make is longer than what came in: it says more and counts as full. Else prove '..UptoSaid'. A law counts once. -/
mutual
def uptoBulk {H : Type} : DataW H → Nat
  | .lit (.string bytes) => bytes.length + 1
  | .lit _ => 1
  | .nil => 1
  | .ptr d => uptoBulk d + 1
  | .slice elems spare => uptoBulkAll elems + uptoBulkAll spare + 1
  | .agg parts => uptoBulkAll parts + 1
  | .iface _ d => uptoBulk d + 1
  | .map entries => uptoBulkEntries entries + 1
  | .held _ => 1
def uptoBulkAll {H : Type} : List (DataW H) → Nat
  | [] => 0
  | d :: r => uptoBulk d + uptoBulkAll r
def uptoBulkEntries {H : Type} : List (Lit × DataW H) → Nat
  | [] => 0
  | x :: r => uptoBulkEntry x + uptoBulkEntries r
def uptoBulkEntry {H : Type} : Lit × DataW H → Nat
  | (.string bytes, d) => bytes.length + uptoBulk d + 1
  | (_, d) => uptoBulk d + 1
 end
def uptoSmall : (H : Type) → List (DataW H) → Bool := fun _ ds => decide (uptoBulkAll ds ≤ 1048576)
def OpenSpec.upto (s : _root_.Go.ChangeSpec) : _root_.Go.OpenSpec := { _root_.Go.OpenSpec.ofChange s with cond := some uptoSmall }

/-- 'concourselaw04.KeyJoins', WHERE WHAT IT READS IS OF BULK AT MOST 1048576: true; the input reads as it did. -/
def keyJoinsUptoRow : OpenClaim := { program := "ytpijeiophibmkaa", sum := "19781d47d9b59e7b13a32cef898649fb8039a91a364b9820414080884606f945", func := "concourse/concourselaw04.KeyJoins", spec := "keyJoins", recurses := true, apart := false, narrowed := true }
def KeyJoinsUptoSaid : Prop := keyJoinsUptoRow.holds Try.pinned (OpenSpec.upto keyJoinsSpec)

/-- 'concourselaw04.KeyPuts', WHERE WHAT IT READS IS OF BULK AT MOST 1048576: true; the input reads as it did. -/
def keyPutsUptoRow : OpenClaim := { program := "ytpijeiophibmkaa", sum := "19781d47d9b59e7b13a32cef898649fb8039a91a364b9820414080884606f945", func := "concourse/concourselaw04.KeyPuts", spec := "keyPuts", recurses := true, apart := false, narrowed := true }
def KeyPutsUptoSaid : Prop := keyPutsUptoRow.holds Try.pinned (OpenSpec.upto keyPutsSpec)

/-- 'concourselaw04.KeySplits', WHERE WHAT IT READS IS OF BULK AT MOST 1048576: true; the input reads as it did. -/
def keySplitsUptoRow : OpenClaim := { program := "ytpijeiophibmkaa", sum := "19781d47d9b59e7b13a32cef898649fb8039a91a364b9820414080884606f945", func := "concourse/concourselaw04.KeySplits", spec := "keySplits", apart := false, narrowed := true }
def KeySplitsUptoSaid : Prop := keySplitsUptoRow.holds Try.pinned (OpenSpec.upto keySplitsSpec)

/-- 'concourselaw04.KeyBack', WHERE WHAT IT READS IS OF BULK AT MOST 1048576: true; the input reads as it did. -/
def keyBackUptoRow : OpenClaim := { program := "ytpijeiophibmkaa", sum := "19781d47d9b59e7b13a32cef898649fb8039a91a364b9820414080884606f945", func := "concourse/concourselaw04.KeyBack", spec := "keyBack", apart := false, narrowed := true }
def KeyBackUptoSaid : Prop := keyBackUptoRow.holds Try.pinned (OpenSpec.upto keyBackSpec)

end Rows
end Go.Proofs.Ytpijeiophibmkaa
