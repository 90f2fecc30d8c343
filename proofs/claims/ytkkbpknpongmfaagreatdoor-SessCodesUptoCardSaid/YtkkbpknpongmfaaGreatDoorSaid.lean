/- SessCodes, the row's statement. -/
import Derived.Test.YtkkbpknpongmfaaGreatDoorFacts
namespace Go.Proofs.YtkkbpknpongmfaaGreatDoor
open Go Go.Abs Go.RowKit Go.ChangeShapes Go.WideShapes Go.Joins Go.Deep
theorem named4 : Tryz.pinned.checked.prog.funcNamed Rows.sessCodesUptoRow.func = some 4 := by kernel_rfl
theorem inst4 : Tryz.f4.isInstance Tryz.pinned.checked.prog Rows.sessCodesUptoRow.origin Rows.sessCodesUptoRow.targs := (of_decide_eq_true (by kernel_rfl))
theorem wrap4 : Tryz.f4.isWrapper Tryz.pinned.checked.prog Rows.sessCodesUptoRow.wrapper Rows.sessCodesUptoRow.mainSum := by unfold Func.isWrapper; first | (rw [if_pos (by decide +kernel)]; kernel_rfl) | (rw [if_neg (by decide +kernel)]; exact ⟨rfl, rfl⟩)
theorem sessCodes_said : Rows.SessCodesUptoSaid :=
  OpenClaim.holds_of_cond 4 Tryz.f4 rfl rfl rfl rfl rfl rfl rfl ⟨rfl, rfl, rfl, rfl, rfl⟩ rfl rfl rfl rfl rfl named4 Tryz.func4 closed4 inst4 wrap4
    (fun os started H enc _ F => by rw [OpenClaim.pre_eq_preRow]; exact law_lifted os started H enc F)
end Go.Proofs.YtkkbpknpongmfaaGreatDoor
