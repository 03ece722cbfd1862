/- The evaluator, its soundness and the walks: part 11. -/
import Derived.Test.YtemblfgjamapbaaC10
set_option linter.unusedSectionVars false
set_option linter.unusedSimpArgs false
set_option linter.unusedVariables false
set_option maxRecDepth 100000
set_option maxRecDepth 1000000
noncomputable section
/- Stacks compared. -/
namespace Go.Ev
open Go.Proofs
def roGet : AV → List UwE
  | .ro c _ => UE.list c
  | _ => []
def skGet (v : AV) (i : Nat) : List UwE := roGet (nthD .unk v.cells i)
end Go.Ev
/- The reference's put, handler, returned. -/
namespace Go.Ev
open Go.Proofs
end Go.Ev
/- The reference's Step. -/
namespace Go.Ev
open Go.Proofs
end Go.Ev
/- Events in a row: the reference's Stacks. -/
namespace Go.Ev
open Go.Proofs
end Go.Ev
/- Nil slices in the rows of a block, told as own blocks without cells. -/
namespace Go.Ev
end Go.Ev
