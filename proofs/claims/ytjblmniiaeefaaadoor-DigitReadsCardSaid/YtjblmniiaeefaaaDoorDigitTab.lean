/- What the digit rows' condition on the library's variables gives a walk, and a world that meets it. -/
import Derived.Outline
import Derived.Test.YtjblmniiaeefaaaDoorRows
import Derived.Test.YtjblmniiaeefaaaDoorDigitLaws
import Derived.Lib.LaidTab
import Derived.Lib.LaidU8
import Derived.LaidLaws
import Derived.Deep.DeepLaidRun
namespace Go.Proofs.YtjblmniiaeefaaaDoor.DgTab
open Go.RowKit
theorem gp : Tryd.prog.globalNamed "internal/strconv.uint64pow10" = some 5 := by kernel_rfl
theorem tp : (Tryd.prog.globals[5]?).map (·.type) = some 240 := by kernel_rfl
theorem cA : Tryd.prog.cellsOf 240 = 20 := by kernel_rfl
theorem cE : Tryd.prog.cellsOf 22 = 1 := by kernel_rfl
theorem uA : Tryd.prog.underlying 240 = some (.array 20 22) := by kernel_rfl
theorem gr : Tryd.prog.globalNamed "strconv.ErrRange" = some 4 := by kernel_rfl
theorem tr : (Tryd.prog.globals[4]?).map (·.type) = some 111 := by kernel_rfl
theorem pow_data : (Rows.laid_internal_strconv_uint64pow10 : DataW Unit) = Lib.tabData .u64 Lib.pow10Tab := rfl
theorem pow_of_reads {W : World} (h : Lib.VarReads Tryd.prog W "internal/strconv.uint64pow10" Rows.laid_internal_strconv_uint64pow10) : DgF.Pow W := by
  obtain ⟨g, t, cs, fuel, p, h1, h2, h3, h4⟩ := h
  obtain rfl := Option.some.inj (gp.symm.trans h1)
  obtain rfl := Option.some.inj (tp.symm.trans h2)
  rw [pow_data] at h4
  have hcs := Lib.cells_of_tab uA Tryd.underlying22 cE cA h4
  show W.var? Tryd.prog _ = _
  rw [h3, ← hcs]
theorem rng_of_reads {W : World} (h : Lib.VarReads Tryd.prog W "strconv.ErrRange" Rows.laid_strconv_ErrRange) : DgW.Rng W := by
  obtain ⟨g, t, cs, fuel, p, h1, h2, h3, h4⟩ := h
  obtain rfl := Option.some.inj (gr.symm.trans h1)
  obtain rfl := Option.some.inj (tr.symm.trans h2)
  obtain ⟨_, u, v, hcs, _, _⟩ := iface_of_trod Tryd.underlying111 h4
  refine ⟨.iface u v, ?_, Or.inr ⟨u, v, rfl⟩⟩
  have := World.var?_cell gr h3 0
  rw [this, ← Array.getElem?_toList, hcs]
  rfl
theorem vars_of_reads {W : World} (hp : Lib.VarReads Tryd.prog W "internal/strconv.uint64pow10" Rows.laid_internal_strconv_uint64pow10) (hr : Lib.VarReads Tryd.prog W "strconv.ErrRange" Rows.laid_strconv_ErrRange) : DgL.Vars W :=
  ⟨pow_of_reads hp, rng_of_reads hr⟩
/-- The condition of the digit rows. -/
abbrev digitLaid : List (String × DataW Unit) := [("math/bits.deBruijn32tab", Rows.laid_math_bits_deBruijn32tab), ("math/bits.deBruijn64tab", Rows.laid_math_bits_deBruijn64tab), ("internal/strconv.uint64pow10", Rows.laid_internal_strconv_uint64pow10), ("strconv.ErrRange", Rows.laid_strconv_ErrRange), ("strconv.ErrSyntax", Rows.laid_strconv_ErrSyntax)]
theorem vars_of_laid {W : World} (h : laidMet Tryd.prog digitLaid W) : DgL.Vars W :=
  vars_of_reads (Lib.laidMet.reads h (by simp [digitLaid])) (Lib.laidMet.reads h (by simp [digitLaid]))
/-- The cells of a datum of numbers and texts, flat. -/
def flat : Nat → DataW Unit → List Value
  | 0, _ => []
  | n + 1, .agg l => l.flatMap (flat n)
  | _, .lit (.int k z) => [.int k z]
  | _, .lit (.string s) => [.string ⟨s.toArray⟩]
  | _, _ => []
def lay (g : Nat) (vs : List Value) (h : Array Obj) : Array Obj := h.modify g fun
      | .cells _ t frozen => .cells vs.toArray t frozen
      | o => o
def textOf : DataW Unit → ByteArray
  | .iface _ (.ptr (.agg [.lit (.string s)])) => ⟨s.toArray⟩
  | _ => .empty
noncomputable def low : Nat := (World.holding Tryd.prog default ⟨#[], #[], []⟩).heap.size
/-- A world that meets the condition: the settled one, the variables' cells laid, the two errors' texts in blocks of their own. -/
noncomputable def laidWorld (os : Os) : World :=
  let w0 := World.holding Tryd.prog os ⟨#[.cells #[.string (textOf Rows.laid_strconv_ErrRange)] 251, .cells #[.string (textOf Rows.laid_strconv_ErrSyntax)] 251], #[], []⟩
  { w0 with heap := lay 3 [.iface 249 (.pointer (some ⟨low + 1, 0, none⟩))] <| lay 4 [.iface 249 (.pointer (some ⟨low, 0, none⟩))] <| lay 5 (flat 3 Rows.laid_internal_strconv_uint64pow10) <| lay 7 (flat 3 Rows.laid_math_bits_deBruijn32tab) <| lay 8 (flat 3 Rows.laid_math_bits_deBruijn64tab) w0.heap }
theorem laid_met (os : Os) (args : Array Value) : laidMet Tryd.prog digitLaid ((laidWorld os).forCall (fun _ _ => 0) ⟨#[], args, []⟩).memory :=
  laidMet_of_run3 8 (by kernel_rfl) (by kernel_rfl) (by kernel_rfl)
end Go.Proofs.YtjblmniiaeefaaaDoor.DgTab
