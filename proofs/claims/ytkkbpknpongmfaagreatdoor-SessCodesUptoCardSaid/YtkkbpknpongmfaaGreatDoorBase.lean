/- The sess seat: the variables as they are laid, the example 'awake' evaluated. -/
import Derived.Test.YtkkbpknpongmfaaGreatDoorAbsC
import Derived.Test.YtkkbpknpongmfaaGreatDoorTie
import Derived.Test.YtkkbpknpongmfaaGreatDoorCodD
import Derived.KernelRfl
namespace Go.Proofs.YtkkbpknpongmfaaGreatDoor
open Go Go.Abs Go.RowKit

def varL : List (List Value) := [[1, 1, 1], [1, -1, 1], [1, 2, 1]].map fun l => l.map fun n => Value.int .i64 n
def yes (r : ARet) (_ : AHeap) : Bool := match r with
  | .ret (.bool b) => b
  | _ => false
theorem yes_ret {r : ARet} {h : AHeap} (e : yes r h = true) : r = .ret (.bool true) := by
  unfold yes at e
  split at e
  · subst e; rfl
  · cases e

theorem laidOut : laidOutB Tryz.prog = true := by kernel_rfl
theorem own : ownKnob Tryz.prog.godebug = none := by kernel_rfl
theorem noOv : OvOk Tryz.prog .leaf := fun f g e => by rw [PT.get_leaf] at e; cases e

/-- The example, evaluated. -/
theorem awake_ev : (low E .leaf 60).call 6 [] (heap0 (rowsOf varL) 0 .leaf) yes = true := by decide +kernel
theorem awake_runs : SC Tryz.prog 6 [] (heap0 (rowsOf varL) 0 .leaf) (fun r _ => r = .ret (.bool true)) :=
  ((low_ok E_ok mixed noOv 60).call _ _ _ _ awake_ev).mono fun _ _ => yes_ret
/-- 'awake' is answered wherever the variables lie as they should. -/
noncomputable def ov : Ov := PT.leaf.set 6 (keepEv varL (.bool true))
theorem ov_ok : OvOk Tryz.prog ov := by
  intro f g e
  unfold ov at e
  rw [PT.get_set] at e
  split at e
  · rename_i hf
    subst hf
    simp only [Option.some.injEq] at e; subst e
    exact fun args h K e => keepEv_ok rfl (by decide) awake_runs args h K e
  · rw [PT.get_leaf] at e; cases e

/-! ### The variables, as they are laid -/
theorem g_one : Tryz.prog.globalNamed "intaglio/verb.one" = some 0 := by kernel_rfl
theorem g_all : Tryz.prog.globalNamed "intaglio/verb.all" = some 1 := by kernel_rfl
theorem g_two : Tryz.prog.globalNamed "intaglio/verb.two" = some 2 := by kernel_rfl
theorem t_one : (Tryz.prog.globals[0]?).map (·.type) = some 67 := by kernel_rfl
theorem t_all : (Tryz.prog.globals[1]?).map (·.type) = some 67 := by kernel_rfl
theorem t_two : (Tryz.prog.globals[2]?).map (·.type) = some 67 := by kernel_rfl
theorem c67 : Tryz.prog.cellsOf 67 = 3 := by kernel_rfl
theorem c3 : Tryz.prog.cellsOf 3 = 1 := by kernel_rfl

theorem vars_at {W : World} (h : laidMetH Tryz.prog Rows.sessNobodyRow.laid W) : ∀ b cs, (rowsOf varL)[b]? = some cs → CellsAt W b cs := by
  rw [MakeChecks.laidMetH_plain _ _ _ (by kernel_rfl)] at h
  have go : ∀ {n : String} {g : Nat} {a b c : Int}, (n, (.agg [.lit (.int .i64 a), .lit (.int .i64 b), .lit (.int .i64 c)] : DataW Unit)) ∈ Rows.sessNobodyRow.laid → Tryz.prog.globalNamed n = some g → (Tryz.prog.globals[g]?).map (·.type) = some 67 →
      CellsAt W g (PT.leaf.puts 0 [.int .i64 a, .int .i64 b, .int .i64 c]) := by
    intro n g a b c hm hg ht
    obtain ⟨cs, fuel, p, hv, hd⟩ := laid_at h hm hg ht
    have := cells_of_ints3 Tryz.underlying67 c67 ⟨rfl, rfl⟩ ⟨rfl, rfl⟩ ⟨rfl, rfl⟩ Tryz.underlying3 c3 hd
    exact cellsAt_of_var hg hv this rfl
  intro b cs hb
  match b, hb with
  | 0, hb =>
    have : cs = PT.leaf.puts 0 [.int .i64 1, .int .i64 1, .int .i64 1] := by simpa [rowsOf, varL] using hb.symm
    subst this
    exact go (by simp [Rows.sessNobodyRow, Rows.laid_intaglio_verb_one]) g_one t_one
  | 1, hb =>
    have : cs = PT.leaf.puts 0 [.int .i64 1, .int .i64 (-1), .int .i64 1] := by simpa [rowsOf, varL] using hb.symm
    subst this
    exact go (by simp [Rows.sessNobodyRow, Rows.laid_intaglio_verb_all]) g_all t_all
  | 2, hb =>
    have : cs = PT.leaf.puts 0 [.int .i64 1, .int .i64 2, .int .i64 1] := by simpa [rowsOf, varL] using hb.symm
    subst this
    exact go (by simp [Rows.sessNobodyRow, Rows.laid_intaglio_verb_two]) g_two t_two
  | n + 3, hb => simp [rowsOf, varL] at hb

end Go.Proofs.YtkkbpknpongmfaaGreatDoor
