/- What the walk of lex.Tokens leans on beside the print: the shelf's contracts and the walk of a region whose last operation alone writes. -/
import Derived.Test.YthbllahcolnjeaaShelf
import Derived.StillTailTactics
namespace Go.Proofs.Ythbllahcolnjeaa.Bld
theorem here : True := trivial
end Go.Proofs.Ythbllahcolnjeaa.Bld
