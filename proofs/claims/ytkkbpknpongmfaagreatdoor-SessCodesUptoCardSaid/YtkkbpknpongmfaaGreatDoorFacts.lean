/- SessCodes: the row's closed facts. -/
import Derived.Test.YtkkbpknpongmfaaGreatDoorLift
namespace Go.Proofs.YtkkbpknpongmfaaGreatDoor
open Go Go.Abs Go.RowKit Go.ChangeShapes Go.WideShapes Go.Joins Go.Deep
theorem closed4 : joinedFacts Tryz.pinned.checked.prog 4 Tryz.f4 (Rows.OpenSpec.upto Rows.sessCodesSpec).bare Rows.sessCodesUptoRow = true := by kernel_rfl
end Go.Proofs.YtkkbpknpongmfaaGreatDoor
