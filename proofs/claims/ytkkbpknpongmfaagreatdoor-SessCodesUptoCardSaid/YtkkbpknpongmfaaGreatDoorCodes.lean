/- Called with any group and any bytes that are together of bulk at most 1048576, SessCodes returns true and leaves its arguments as they were, where verb.one, verb.two and verb.all hold what the program's text lays (the card ties that). -/
import Derived.Test.YtkkbpknpongmfaaGreatDoorSaid
import Derived.SevenTiedAt
import Derived.Test.YtkkbpknpongmfaaGreatDoorCards
namespace Go.Proofs.YtkkbpknpongmfaaGreatDoor
open Go Go.Abs Go.RowKit Go.ChangeShapes Go.WideShapes Go.Joins Go.Deep
theorem sessCodes_holds : Rows.SessCodesUptoCardSaid :=
  Claim7.holds_tied_plain_at .later [] [.data, .data, .data, .sentinel, .sentinel, .data, .data, .data] true (true, "b4aaae90000a2dc7b2e5b167117bafebc6a64b700b927170a0194be6d03120d8") true
    sessCodes_said (fun _ h => by cases h) (by kernel_rfl) (fun _ h => by cases h) sessCodesUpto_row_tie rfl ⟨rfl, rfl⟩ (by kernel_rfl) rfl
    (fun f fn hf hfn => by
      obtain rfl : f = 4 := Option.some.inj ((show Tryz.prog.funcNamed "intaglio/intagliolaw24.SessCodes" = some 4 by kernel_rfl).symm.trans hf) |>.symm
      obtain rfl : fn = Tryz.f4 := (Option.some.inj (Tryz.func4.symm.trans hfn)).symm
      exact ⟨by kernel_rfl, fun j t ht => by
        rw [Tryz.params4] at ht
        have hm : t ∈ [42, 50] := by simpa using Array.mem_of_getElem? ht
        have hall : ([42, 50].all fun u => !Tryz.prog.wantsStandIn u) = true := by kernel_rfl
        exact (show Tryz.prog.wantsStandIn t = false by simpa using List.all_eq_true.1 hall t hm)⟩)
    (by kernel_rfl)
#print axioms sessCodes_holds
end Go.Proofs.YtkkbpknpongmfaaGreatDoor
