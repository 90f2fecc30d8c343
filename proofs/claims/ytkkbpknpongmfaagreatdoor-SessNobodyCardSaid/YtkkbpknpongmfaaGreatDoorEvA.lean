/- SessNobody, evaluated: its call with few words, in groups of a few lengths. -/
import Derived.Test.YtkkbpknpongmfaaGreatDoorBase
namespace Go.Proofs.YtkkbpknpongmfaaGreatDoor
open Go Go.Abs Go.RowKit
/-! ### SessNobody, evaluated -/
def act (v : Value) : Value := .agg #[topBool, topInt .u16, topInt .i64, v]
def hp (extra : List (PT Value)) : AHeap := heapR 3 (rowsOf varL ++ extra)
noncomputable def evN (n : Nat) : Bool := (low E ov 60).call 3 [act (.slice (some ⟨3, 0, none⟩) n (2 * n + 1))] (hp [PT.leaf.puts 0 (repT topStr n)]) yes
theorem ev_nil : (low E ov 60).call 3 [act (.slice none 0 0)] (hp []) yes = true := by decide +kernel
theorem ev_zero : (low E ov 60).call 3 [act (.slice (some ⟨3, 0, none⟩) 0 1)] (hp []) yes = true := by decide +kernel
theorem ev_long : (low E ov 60).call 3 [act (topSl 45)] (hp []) yes = true := by decide +kernel
theorem ev_g0 : ([0, 1, 2, 3, 4, 5].all evN) = true := by decide +kernel
theorem ev_g1 : ([6, 7, 8, 9, 10, 11].all evN) = true := by decide +kernel
theorem ev_g2 : ([12, 13, 14, 15, 16, 17].all evN) = true := by decide +kernel
theorem ev_g3 : ([18, 19, 20, 21, 22, 23].all evN) = true := by decide +kernel
end Go.Proofs.YtkkbpknpongmfaaGreatDoor
