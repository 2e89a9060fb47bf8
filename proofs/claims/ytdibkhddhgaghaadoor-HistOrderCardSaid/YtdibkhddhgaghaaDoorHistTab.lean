/- What the hist rows' condition on the library's variables gives a walk, and a world that meets it. -/
import Derived.Test.YtdibkhddhgaghaaDoorRows
import Derived.Test.YtdibkhddhgaghaaDoorHistOpen
import Derived.Test.YtdibkhddhgaghaaDoorHistOrder
import Derived.Lib.LaidTab
import Derived.Lib.LaidU8
import Derived.LaidLaws
import Derived.Deep.DeepLaidRun
import Derived.HandedShaped
import Derived.ChangeSame
namespace Go.Proofs.YtdibkhddhgaghaaDoor.HsTab
open Go.RowKit
set_option linter.unusedVariables false
/-- The plain wrap over listed variables, the world's shape kept. -/
theorem returns_shaped {H : Type} {enc : TypeId × Value → H} {a : Assume} {C : Checked} {os : Os} {f : FuncId} {fn : Func} {s : ChangeSpec} {conds : List PathCond} {apart fresh handsOn again : Bool} {X : World → Array Value → Prop}
    (hX : ∀ (w w' : World) (args : Array Value), w.heap = w'.heap → X w args → X w' args) (own : ownKnob C.prog.godebug = none) (started : os.Started) (noInit : C.prog.inits.idxOf? f = none) (hfn : C.prog.funcs[f]? = some fn)
    (witness : ∃ (w : World) (tape : Tape) (i : Input), w.os = os ∧ (w.forCall tape i).Shaped C.prog ∧ i.vars = [] ∧ Input.okWide C.prog (w.forCall tape i) .any w.heap.size f i ∧
      ((s.pre enc C.prog fn conds apart (w.forCall tape i).memory i.args ∧ X (w.forCall tape i).memory i.args) ∧ sizedMet enc C.prog fn (OpenSpec.ofChange s) apart (w.forCall tape i).memory i.args) ∧ a.holds C.prog (lone (Frame.enter C.prog f i.args .normal) [] (w.forCall tape i)))
    (contract : ∀ (W : World) (base : Nat) (args : Array Value) (ds gs : List (DataW H)) (before : List MemPlace), (∀ (j : Nat) t v, fn.params[j]? = some t → args[j]? = some v → Value.okWide C.prog W .any base t v) →
      DataW.Whole enc C.prog fn.params.toList s.vars apart W args.toList ds gs before → W.ShapedOpen C.prog → X W args → Calls C.prog f args W fun e W' => ∃ v, e = .returned v ∧ s.post enc C.prog fn apart fresh handsOn again W args v W') :
    ReturnsInHanded a C os f .any (fun w args => (s.pre enc C.prog fn conds apart w args ∧ X w args) ∧ sizedMet enc C.prog fn (OpenSpec.ofChange s) apart w args) (s.post enc C.prog fn apart fresh handsOn again) := by
  refine returnsInHanded_of_calls own started noInit witness fun w tape i _ hsh _ hok hpre _ => ?_
  obtain ⟨_, _, _, fn', hfn', _, _, _, _, hval⟩ := hok
  cases hfn'.symm.trans hfn
  obtain ⟨⟨⟨ds, gs, before, hw, _⟩, hx⟩, _⟩ := hpre
  exact (contract (w.forCall tape i) w.heap.size i.args ds gs before hval (DataW.Whole.of_heap (w' := w.forCall tape i) (by rfl) hw) hsh (hX _ _ _ (by rfl) hx)).mono fun e W' ⟨v, he, hp⟩ => by
    subst he
    exact ChangeSpec.post_blind hp
theorem gp : Tryd.prog.globalNamed "internal/strconv.uint64pow10" = some 3 := by kernel_rfl
theorem tp : (Tryd.prog.globals[3]?).map (·.type) = some 189 := by kernel_rfl
theorem cA : Tryd.prog.cellsOf 189 = 20 := by kernel_rfl
theorem cE : Tryd.prog.cellsOf 22 = 1 := by kernel_rfl
theorem uA : Tryd.prog.underlying 189 = some (.array 20 22) := by kernel_rfl
theorem pow_data : (Rows.laid_internal_strconv_uint64pow10 : DataW Unit) = Lib.tabData .u64 Lib.pow10Tab := rfl
theorem pow_of_reads {W : World} (h : Lib.VarReads Tryd.prog W "internal/strconv.uint64pow10" Rows.laid_internal_strconv_uint64pow10) : DgP.Pow W := by
  obtain ⟨g, t, cs, fuel, p, h1, h2, h3, h4⟩ := h
  obtain rfl := Option.some.inj (gp.symm.trans h1)
  obtain rfl := Option.some.inj (tp.symm.trans h2)
  rw [pow_data] at h4
  have hcs := Lib.cells_of_tab uA Tryd.underlying22 cE cA h4
  show W.var? Tryd.prog _ = _
  rw [h3, ← hcs]
theorem hgn : Tryd.prog.globalNamed "sprocket/hexa.digits" = some 1 := by kernel_rfl
theorem hgt : (Tryd.prog.globals[1]?).map (·.type) = some 142 := by kernel_rfl
theorem hcA : Tryd.prog.cellsOf 142 = 16 := by kernel_rfl
theorem hcE : Tryd.prog.cellsOf 5 = 1 := by kernel_rfl
theorem huA : Tryd.prog.underlying 142 = some (.array 16 5) := by kernel_rfl
def zs : List Int := [48, 49, 50, 51, 52, 53, 54, 55, 56, 57, 97, 98, 99, 100, 101, 102]
theorem hex_data : (Rows.laid_sprocket_hexa_digits : DataW Unit) = Lib.tabData .u8 zs := rfl
theorem tab_of_reads {W : World} (h : Lib.VarReads Tryd.prog W "sprocket/hexa.digits" Rows.laid_sprocket_hexa_digits) : Hxw.Tab W := by
  obtain ⟨g, t, cs, fuel, p, h1, h2, h3, h4⟩ := h
  obtain rfl := Option.some.inj (hgn.symm.trans h1)
  obtain rfl := Option.some.inj (hgt.symm.trans h2)
  rw [hex_data] at h4
  have hcs := Lib.cells_of_tab huA Tryd.underlying5 hcE hcA h4
  have hc : ∀ i : Nat, i < 16 → W.cell? ⟨1, i, none⟩ = some (.int .u8 ((Hx.dig i).toNat : Int)) := by
    intro i hi
    have := World.var?_cell hgn h3 i
    rw [this, ← Array.getElem?_toList, hcs]
    match i, hi with
    | 0, _ => rfl
    | 1, _ => rfl
    | 2, _ => rfl
    | 3, _ => rfl
    | 4, _ => rfl
    | 5, _ => rfl
    | 6, _ => rfl
    | 7, _ => rfl
    | 8, _ => rfl
    | 9, _ => rfl
    | 10, _ => rfl
    | 11, _ => rfl
    | 12, _ => rfl
    | 13, _ => rfl
    | 14, _ => rfl
    | 15, _ => rfl
    | n + 16, h => exact absurd h (by omega)
  exact ⟨World.block_lt_of_cell? W _ (hc 0 (by omega)), hc⟩
/-- The condition of the hist rows. -/
abbrev histLaid : List (String × DataW Unit) := [("math/bits.deBruijn32tab", Rows.laid_math_bits_deBruijn32tab), ("math/bits.deBruijn64tab", Rows.laid_math_bits_deBruijn64tab), ("internal/strconv.uint64pow10", Rows.laid_internal_strconv_uint64pow10), ("sprocket/hexa.digits", Rows.laid_sprocket_hexa_digits), ("unicode/utf8.acceptRanges", Rows.laid_unicode_utf8_acceptRanges), ("strconv.ErrRange", Rows.laid_strconv_ErrRange), ("strconv.ErrSyntax", Rows.laid_strconv_ErrSyntax), ("unicode/utf8.first", Rows.laid_unicode_utf8_first)]
theorem wv_of_laid {W : World} (h : laidMet Tryd.prog histLaid W) (hsh : W.ShapedOpen Tryd.prog) : Hs.Wv W := by
  obtain ⟨m, hm⟩ := Tryd.laysM145.s1_3 W hsh
  have hm' : W.cell? ⟨2, 0, none⟩ = some (.int .i64 m) := hm
  exact ⟨⟨pow_of_reads (Lib.laidMet.reads h (by simp [histLaid])), tab_of_reads (Lib.laidMet.reads h (by simp [histLaid]))⟩, ⟨m, hm'⟩, World.block_lt_of_cell? W _ hm'⟩
/-- The cells of a datum of numbers and texts, flat. -/
def flat : Nat → DataW Unit → List Value
  | 0, _ => []
  | n + 1, .agg l => l.flatMap (flat n)
  | _, .lit (.int k z) => [.int k z]
  | _, .lit (.string s) => [.string ⟨s.toArray⟩]
  | _, _ => []
def lay (g : Nat) (vs : List Value) (h : Array Obj) : Array Obj := h.modify g fun
      | .cells _ t frozen => .cells vs.toArray t frozen
      | o => o
def textOf : DataW Unit → ByteArray
  | .iface _ (.ptr (.agg [.lit (.string s)])) => ⟨s.toArray⟩
  | _ => .empty
noncomputable def low : Nat := (World.holding Tryd.prog default ⟨#[], #[], []⟩).heap.size
/-- A world that meets the condition: the settled one, the variables' cells laid, the two errors' texts in blocks of their own. -/
noncomputable def laidWorld (os : Os) : World :=
  let w0 := World.holding Tryd.prog os ⟨#[.cells #[.string (textOf Rows.laid_strconv_ErrRange)] 210, .cells #[.string (textOf Rows.laid_strconv_ErrSyntax)] 210], #[], []⟩
  { w0 with heap := lay 7 [.iface 208 (.pointer (some ⟨low + 1, 0, none⟩))] <| lay 8 [.iface 208 (.pointer (some ⟨low, 0, none⟩))] <| lay 3 (flat 3 Rows.laid_internal_strconv_uint64pow10) <| lay 1 (flat 3 Rows.laid_sprocket_hexa_digits) <| lay 6 (flat 3 Rows.laid_unicode_utf8_acceptRanges) <| lay 5 (flat 3 Rows.laid_unicode_utf8_first) <| lay 9 (flat 3 Rows.laid_math_bits_deBruijn32tab) <| lay 10 (flat 3 Rows.laid_math_bits_deBruijn64tab) w0.heap }
set_option maxRecDepth 1000000 in
theorem laid_met (os : Os) (args : Array Value) : laidMet Tryd.prog histLaid ((laidWorld os).forCall (fun _ _ => 0) ⟨#[], args, []⟩).memory :=
  laidMet_of_run3 8 (by kernel_rfl) (by kernel_rfl) (by kernel_rfl)
theorem order_walk (W : World) (hT : Hs.Wv W) (v : Value) (l : List Hs.CV) (f : Hs.Cls W v l) (h : l.length ≤ maxLen ∧ ∀ q ∈ l, Hs.OpenOk q) :
    Calls Tryd.prog 5 #[v] W fun e W' => e = .returned (.bool true) ∧ Below W.heap.size W W' :=
  Hs.order_any W v l f ⟨h.1, fun q hq => (h.2 q hq).few, fun q hq => (h.2 q hq).ints.2.2.1, fun q hq => (h.2 q hq).ints.1⟩ hT
end Go.Proofs.YtdibkhddhgaghaaDoor.HsTab
