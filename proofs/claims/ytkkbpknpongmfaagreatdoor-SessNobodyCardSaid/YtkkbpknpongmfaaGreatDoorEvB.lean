/- SessNobody, evaluated: with more words. -/
import Derived.Test.YtkkbpknpongmfaaGreatDoorEvA
namespace Go.Proofs.YtkkbpknpongmfaaGreatDoor
open Go Go.Abs Go.RowKit
theorem ev_g4 : ([24, 25, 26, 27, 28, 29].all evN) = true := by decide +kernel
theorem ev_g5 : ([30, 31, 32, 33, 34, 35].all evN) = true := by decide +kernel
theorem ev_g6 : ([36, 37, 38, 39, 40, 41].all evN) = true := by decide +kernel
theorem ev_g7 : ([42, 43, 44, 45].all evN) = true := by decide +kernel
theorem ev_some (n : Nat) (hn : n < 46) : evN n = true := by
  by_cases h0 : n < 6
  · exact List.all_eq_true.1 ev_g0 n (by simp; omega)
  by_cases h1 : n < 12
  · exact List.all_eq_true.1 ev_g1 n (by simp; omega)
  by_cases h2 : n < 18
  · exact List.all_eq_true.1 ev_g2 n (by simp; omega)
  by_cases h3 : n < 24
  · exact List.all_eq_true.1 ev_g3 n (by simp; omega)
  by_cases h4 : n < 30
  · exact List.all_eq_true.1 ev_g4 n (by simp; omega)
  by_cases h5 : n < 36
  · exact List.all_eq_true.1 ev_g5 n (by simp; omega)
  by_cases h6 : n < 42
  · exact List.all_eq_true.1 ev_g6 n (by simp; omega)
  exact List.all_eq_true.1 ev_g7 n (by simp; omega)
end Go.Proofs.YtkkbpknpongmfaaGreatDoor
