/- What the row's condition on the table of digits gives a walk, and a world that meets it. -/
import Derived.Test.YtaodaonbkfgoeaaDoorRows
import Derived.Test.YtaodaonbkfgoeaaDoorHexaWalk
import Derived.Lib.LaidTab
import Derived.LaidLaws
namespace Go.Proofs.YtaodaonbkfgoeaaDoor.HxTab
open Go.RowKit Hxw
theorem gn : Tryd.prog.globalNamed "sprocket/hexa.digits" = some 0 := by kernel_rfl
theorem gt : (Tryd.prog.globals[0]?).map (·.type) = some 33 := by kernel_rfl
theorem cA : Tryd.prog.cellsOf 33 = 16 := by kernel_rfl
theorem cE : Tryd.prog.cellsOf 5 = 1 := by kernel_rfl
theorem uA : Tryd.prog.underlying 33 = some (.array 16 5) := by kernel_rfl
def zs : List Int := [48, 49, 50, 51, 52, 53, 54, 55, 56, 57, 97, 98, 99, 100, 101, 102]
theorem tab_of_laid {W : World} {rest : List (String × DataW Unit)} (h : laidMet Tryd.prog (("sprocket/hexa.digits", Rows.laid_sprocket_hexa_digits) :: rest) W) : Tab W := by
  have h' : laidMet Tryd.prog (("sprocket/hexa.digits", Lib.tabData .u8 zs) :: rest) W := h
  have t := Lib.tabIs_of_head gn gt uA Tryd.underlying5 cE cA h'
  unfold Lib.TabIs at t
  have hc : ∀ i : Nat, i < 16 → W.cell? ⟨0, i, none⟩ = some (.int .u8 ((Hx.dig i).toNat : Int)) := by
    intro i hi
    have := World.var?_cell gn t i
    rw [this]
    match i, hi with
    | 0, _ => rfl
    | 1, _ => rfl
    | 2, _ => rfl
    | 3, _ => rfl
    | 4, _ => rfl
    | 5, _ => rfl
    | 6, _ => rfl
    | 7, _ => rfl
    | 8, _ => rfl
    | 9, _ => rfl
    | 10, _ => rfl
    | 11, _ => rfl
    | 12, _ => rfl
    | 13, _ => rfl
    | 14, _ => rfl
    | 15, _ => rfl
    | n + 16, h => exact absurd h (by omega)
  exact ⟨World.block_lt_of_cell? W _ (hc 0 (by omega)), hc⟩
/-- A world that meets the condition: the settled one, the table's cells laid. -/
noncomputable def laidWorld (os : Os) : World :=
  let w0 := World.holding Tryd.prog os ⟨#[], #[], []⟩
  { w0 with heap := w0.heap.modify 0 fun
      | .cells _ t frozen => .cells (zs.map fun z => Value.int .u8 z).toArray t frozen
      | o => o }
theorem laid_met (os : Os) (args : Array Value) : laidMet Tryd.prog [("sprocket/hexa.digits", Rows.laid_sprocket_hexa_digits)] ((laidWorld os).forCall (fun _ _ => 0) ⟨#[], args, []⟩).memory :=
  laidMet_of_run' 8 (by kernel_rfl) (by kernel_rfl)
end Go.Proofs.YtaodaonbkfgoeaaDoor.HxTab
